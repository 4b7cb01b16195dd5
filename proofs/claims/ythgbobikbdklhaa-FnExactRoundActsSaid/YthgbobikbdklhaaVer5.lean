import Derived.Test.YthgbobikbdklhaaMod1
import Derived.Test.YthgbobikbdklhaaPartsOf
namespace Go.Proofs.Ythgbobikbdklhaa
open Go.RowKit
/-- the reference's test of distances -/
def forS (own : Int) (xs : List Int) : Bool := (xs.all fun x => x == own - 1 || x == own + 1) && ((own == 0 && (xs.countP (fun x => x == own - 1) == 0)) || (decide (0 < own) && (xs.countP (fun x => x == own - 1) == 1)))
/-- the program's test of distances -/
def forI (own : Int) (xs : List Int) : Bool := if own = 0 then xs.countP (fun x => x == own + 1) == xs.length else (xs.countP (fun x => x == own - 1) == 1) && (((xs.countP (fun x => x == own + 1) : Nat) : Int) == (xs.length : Int) - 1)
theorem for_eq {own : Int} {xs : List Int} (h0 : 0 ≤ own) : forI own xs = forS own xs := by
  have hs := count_sum (p := fun x => x == own - 1) (q := fun x => x == own + 1) (xs := xs) (fun x _ hp => by
    simp only [beq_iff_eq] at hp
    simp; omega)
  unfold forI forS
  generalize xs.countP (fun x => x == own - 1) = a at *
  generalize xs.countP (fun x => x == own + 1) = b at *
  rw [Bool.eq_iff_iff]
  by_cases h : own = 0
  · rw [if_pos h]
    simp only [Bool.and_eq_true, decide_eq_true_eq, beq_iff_eq, Bool.or_eq_true, List.all_eq_true] at *
    rw [← hs.2]
    omega
  · rw [if_neg h]
    simp only [Bool.and_eq_true, decide_eq_true_eq, beq_iff_eq, Bool.or_eq_true, List.all_eq_true] at *
    rw [← hs.2]
    omega
end Go.Proofs.Ythgbobikbdklhaa
namespace Go.Proofs.Ythgbobikbdklhaa
open Go.RowKit
theorem partsL4 (l : Int) : partsL 4 l = [l / 100, l % 100] := by simp [partsL, rangesL, pDiv, pRem]
theorem partsL5 (l : Int) : partsL 5 l = [l / 2 / 10 / 100, l / 2 / 10 % 100, l / 2 % 10, l % 2] := by simp [partsL, rangesL, pDiv, pRem]
theorem ints2 {w : World} {v : Value} {a b : Int} (h : IntS w v [a, b]) : ∃ g off c, v = .slice (some ⟨g, off, none⟩) 2 c ∧ (∀ W, Since w W → W.cell? ⟨g, off, none⟩ = some (.int .i64 a)) ∧ (∀ W, Since w W → W.cell? ⟨g, off + 1, none⟩ = some (.int .i64 b)) := by
  obtain ⟨A, c, rfl, _, _, hA⟩ := h
  obtain ⟨g, off, rfl, h0⟩ := hA 0 a rfl
  obtain ⟨g', off', e, h1⟩ := hA 1 b rfl
  cases e
  exact ⟨g, off, c, rfl, have_cell (by simpa using h0), have_cell h1⟩
theorem ints4 {w : World} {v : Value} {a b d e : Int} (h : IntS w v [a, b, d, e]) : ∃ g off c, v = .slice (some ⟨g, off, none⟩) 4 c ∧ (∀ W, Since w W → W.cell? ⟨g, off, none⟩ = some (.int .i64 a)) ∧ (∀ W, Since w W → W.cell? ⟨g, off + 1, none⟩ = some (.int .i64 b)) ∧ (∀ W, Since w W → W.cell? ⟨g, off + 2, none⟩ = some (.int .i64 d)) ∧ (∀ W, Since w W → W.cell? ⟨g, off + 3, none⟩ = some (.int .i64 e)) := by
  obtain ⟨A, c, rfl, _, _, hA⟩ := h
  obtain ⟨g, off, rfl, h0⟩ := hA 0 a rfl
  obtain ⟨g', off', e1, h1⟩ := hA 1 b rfl
  cases e1
  obtain ⟨g', off', e1, h2⟩ := hA 2 d rfl
  cases e1
  obtain ⟨g', off', e1, h3⟩ := hA 3 e rfl
  cases e1
  exact ⟨g, off, c, rfl, have_cell (by simpa using h0), have_cell h1, have_cell h2, have_cell h3⟩
theorem range_any_succ {k : Nat} {p : Nat → Bool} : (List.range (k + 1)).any p = ((List.range k).any p || p k) := by rw [List.range_succ, List.any_append]; simp
def lab (ls : List Int) (e : Int × Int) : Int := ls.getD e.1.toNat 0
/-- a node accepts a proof of a leader -/
def leadB (idk ink : Int) (ls : List Int) (l : Int) (es : List (Int × Int)) : Bool :=
  ((List.range es.length).all fun i => lab ls (es.getD i (0, 0)) / 100 == l / 100) && ((l % 100 == 0 && idk == l / 100 && ink == 1) || (decide (0 < l % 100) && ink != 1 && (List.range es.length).any fun i => lab ls (es.getD i (0, 0)) % 100 == l % 100 - 1))
end Go.Proofs.Ythgbobikbdklhaa
namespace Go.Proofs.Ythgbobikbdklhaa
open Go.RowKit
end Go.Proofs.Ythgbobikbdklhaa
namespace Go.Proofs.Ythgbobikbdklhaa
open Go.RowKit
def ev0 (x : Int) : Int := x / 2 / 10 / 100
def ev1 (x : Int) : Int := x / 2 / 10 % 100
def ev2 (x : Int) : Int := x / 2 % 10
def ev3 (x : Int) : Int := x % 2
theorem partsE (l : Int) : partsL 5 l = [ev0 l, ev1 l, ev2 l, ev3 l] := partsL5 l
theorem ev1_bd (x : Int) : 0 ≤ ev1 x ∧ ev1 x < 100 := by unfold ev1; omega
theorem ev3_bd (x : Int) : 0 ≤ ev3 x ∧ ev3 x ≤ 1 := by unfold ev3; omega
def evHit (l : Int) (e : Int × Int) (y : Int) : Bool := e.2 == ev2 y && ev1 y == ev1 l + 1
def evSum (ls : List Int) (l : Int) (es : List (Int × Int)) : Nat → Int
  | 0 => 1
  | j + 1 => evSum ls l es j + if evHit l (es.getD j (0, 0)) (lab ls (es.getD j (0, 0))) then ev3 (lab ls (es.getD j (0, 0))) else 0
theorem evSum_bd (ls : List Int) (l : Int) (es : List (Int × Int)) (j : Nat) : 1 ≤ evSum ls l es j ∧ evSum ls l es j ≤ 1 + j := by
  induction j with
  | zero => simp [evSum]
  | succ j ih =>
    have := ev3_bd (lab ls (es.getD j (0, 0)))
    unfold evSum
    split <;> omega
def evAny (ls : List Int) (l : Int) (es : List (Int × Int)) (j : Nat) : Bool := (List.range j).any fun i => ((i : Int) == ev2 l) && (ev1 (lab ls (es.getD i (0, 0))) == ev1 l - 1)
def evAll (ls : List Int) (l : Int) (es : List (Int × Int)) (j : Nat) : Bool := (List.range j).all fun i => ev0 (lab ls (es.getD i (0, 0))) == ev0 l
/-- a node accepts a proof of an even number -/
def evenB (idk : Int) (ls : List Int) (l : Int) (es : List (Int × Int)) : Bool :=
  evAll ls l es es.length && (ev3 l == evSum ls l es es.length % 2) && ((ev1 l == 0 && ev2 l == 9 && idk == ev0 l && ev3 l == 0) || (decide (0 < ev1 l) && evAny ls l es es.length))
theorem labEnd {ls : List Int} {es : List (Int × Int)} {j : Nat} {x : Int × Int} {y : Int} (hx : es[j]? = some x) (hy : ls.getD x.1.toNat 0 = y) : lab ls (es.getD j (0, 0)) = y ∧ (es.getD j (0, 0)).2 = x.2 := by rw [getD_of hx]; exact ⟨hy, rfl⟩
theorem hitEq {ls : List Int} {es : List (Int × Int)} {j : Nat} {l x y : Int} {b : Bool} (h : lab ls (es.getD j (0, 0)) = y ∧ (es.getD j (0, 0)).2 = x) (f : (x == ev2 y && ev1 y == ev1 l + 1) = b) : evHit l (es.getD j (0, 0)) (lab ls (es.getD j (0, 0))) = b := by
  unfold evHit; rw [h.1, h.2]; exact f
end Go.Proofs.Ythgbobikbdklhaa
namespace Go.Proofs.Ythgbobikbdklhaa
open Go.RowKit
end Go.Proofs.Ythgbobikbdklhaa
