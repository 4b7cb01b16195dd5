import Derived.Test.YtlfehdikgbgloaaGreatMod1
import Derived.Test.YtlfehdikgbgloaaGreatPartsOf
namespace Go.Proofs.YtlfehdikgbgloaaGreat
open Go.RowKit
set_option maxHeartbeats 4000000 in
theorem coThrough_any (vl va : Value) (ls at' : List Int) (w : World) (hl : IntS w vl ls) (ha : IntS w va at') (hle : at'.length ≤ 1000000) (hin : ∀ x ∈ at', 0 ≤ x ∧ x < ls.length) :
    Calls Tryz.prog 111 #[vl, va] w fun e w' => ∃ u, e = .returned u ∧ Own w' w.heap.size u (at'.map fun x => ls.getD x.toNat 0) ∧ Below w.heap.size w w' := by
  have HL := Lib.hid hl
  have Hin := Lib.hid hin
  obtain ⟨AL, cL, rfl, hlL, hmL, _⟩ := hl
  obtain ⟨A1, z1, rfl, hz1, hz2, hA1⟩ := ha
  unfold maxLen at hmL hz2
  have HA1 := Lib.hid hA1
  have hs0 : Since w w := since_refl _
  clear hA1 hin
  go_enter Tryz.func111, Tryz.ntmps111
  go_wp2
  go_loopw [5, 10] (fun u i wr => ∃ j : Nat, j ≤ at'.length ∧ i = .int .i64 j ∧ Own wr w.heap.size u ((at'.take j).map fun x => ls.getD x.toNat 0) ∧ Since w wr) (fun _ i _ => at'.length - (intOf i).toNat)
  case atStart => exact ⟨0, Nat.zero_le _, rfl, by simpa using own_nil w w.heap.size, hs0⟩
  case round =>
    obtain ⟨j, hj, rfl, ho, hs⟩ := hrel
    have Ho := Lib.hid ho
    clear hs0 ho
    by_cases hlt : j < at'.length
    · obtain ⟨x1, hx⟩ := getx at' j hlt
      obtain ⟨b1, off1, rfl, hd1⟩ := HA1.out j _ hx
      obtain ⟨i1, i2⟩ := Hin.out _ (List.mem_of_getElem? hx)
      obtain ⟨m1, bl, ol, cl, y, rfl, hv, hm1, hg0, hg1, hd3⟩ := lab_at HL.out i1 i2
      cases hv
      have t1 := have_cell hd1
      have t3 := have_cell hd3
      have Hx := Lib.hid hx
      have Hg := Lib.hid hg1
      have hlen : Hid (((at'.take j).map fun x => ls.getD x.toNat 0).length + 1 ≤ 17592186044416) := by show _ ≤ _; simp; omega
      have E2 : Hid (((at'.take j).map fun x => ls.getD x.toNat 0).length = j) := by show _ = _; simp; omega
      clear hx hd1 hd3 hg0 hg1
      go_wp2_with (at_builtin; refine app_int_s rfl _ _ rfl rfl (Ho.out.since (since_alloc _ (since_refl _))) wr.heap.size y rfl (by simp [go_sem]) hlen.out (since_alloc _ hs) ?_; intro g cc w2 ho2 hs2)
      have e1 : ((at'.take j).map fun x => ls.getD x.toNat 0) ++ [y] = (at'.take (j + 1)).map fun x => ls.getD x.toNat 0 := by rw [take_snoc Hx.out]; simp only [List.map_append, List.map_cons, List.map_nil, Hg.out]
      rw [e1] at ho2
      have Ho2 := Lib.hid ho2
      have Hs2 := Lib.hid hs2
      clear ho2 hs2 hs e1
      go_wp2
      go_roundw
      case rel => exact ⟨j + 1, by omega, by go_num, by first | exact Ho2.out | (have := Ho2.out; rw [E2.out] at this; exact this), Hs2.out⟩
      case measure => simp [intOf]; omega
    · obtain rfl : j = at'.length := by omega
      go_wp2
      go_ret
      exact ⟨_, rfl, by have := Ho.out; rwa [List.take_length] at this, hs⟩
/-- the reference's test of distances -/
def forS (own : Int) (xs : List Int) : Bool := (xs.all fun x => x == own - 1 || x == own + 1) && ((own == 0 && (xs.countP (fun x => x == own - 1) == 0)) || (decide (0 < own) && (xs.countP (fun x => x == own - 1) == 1)))
/-- the program's test of distances -/
def forI (own : Int) (xs : List Int) : Bool := if own = 0 then xs.countP (fun x => x == own + 1) == xs.length else (xs.countP (fun x => x == own - 1) == 1) && (((xs.countP (fun x => x == own + 1) : Nat) : Int) == (xs.length : Int) - 1)
theorem for_eq {own : Int} {xs : List Int} (h0 : 0 ≤ own) : forI own xs = forS own xs := by
  have hs := count_sum (p := fun x => x == own - 1) (q := fun x => x == own + 1) (xs := xs) (fun x _ hp => by
    simp only [beq_iff_eq] at hp
    simp; omega)
  unfold forI forS
  generalize xs.countP (fun x => x == own - 1) = a at *
  generalize xs.countP (fun x => x == own + 1) = b at *
  rw [Bool.eq_iff_iff]
  by_cases h : own = 0
  · rw [if_pos h]
    simp only [Bool.and_eq_true, decide_eq_true_eq, beq_iff_eq, Bool.or_eq_true, List.all_eq_true] at *
    rw [← hs.2]
    omega
  · rw [if_neg h]
    simp only [Bool.and_eq_true, decide_eq_true_eq, beq_iff_eq, Bool.or_eq_true, List.all_eq_true] at *
    rw [← hs.2]
    omega
end Go.Proofs.YtlfehdikgbgloaaGreat
namespace Go.Proofs.YtlfehdikgbgloaaGreat
open Go.RowKit
theorem partsL4 (l : Int) : partsL 4 l = [l / 100, l % 100] := by simp [partsL, rangesL, pDiv, pRem]
theorem partsL5 (l : Int) : partsL 5 l = [l / 2 / 10 / 100, l / 2 / 10 % 100, l / 2 % 10, l % 2] := by simp [partsL, rangesL, pDiv, pRem]
theorem ints2 {w : World} {v : Value} {a b : Int} (h : IntS w v [a, b]) : ∃ g off c, v = .slice (some ⟨g, off, none⟩) 2 c ∧ (∀ W, Since w W → W.cell? ⟨g, off, none⟩ = some (.int .i64 a)) ∧ (∀ W, Since w W → W.cell? ⟨g, off + 1, none⟩ = some (.int .i64 b)) := by
  obtain ⟨A, c, rfl, _, _, hA⟩ := h
  obtain ⟨g, off, rfl, h0⟩ := hA 0 a rfl
  obtain ⟨g', off', e, h1⟩ := hA 1 b rfl
  cases e
  exact ⟨g, off, c, rfl, have_cell (by simpa using h0), have_cell h1⟩
theorem ints4 {w : World} {v : Value} {a b d e : Int} (h : IntS w v [a, b, d, e]) : ∃ g off c, v = .slice (some ⟨g, off, none⟩) 4 c ∧ (∀ W, Since w W → W.cell? ⟨g, off, none⟩ = some (.int .i64 a)) ∧ (∀ W, Since w W → W.cell? ⟨g, off + 1, none⟩ = some (.int .i64 b)) ∧ (∀ W, Since w W → W.cell? ⟨g, off + 2, none⟩ = some (.int .i64 d)) ∧ (∀ W, Since w W → W.cell? ⟨g, off + 3, none⟩ = some (.int .i64 e)) := by
  obtain ⟨A, c, rfl, _, _, hA⟩ := h
  obtain ⟨g, off, rfl, h0⟩ := hA 0 a rfl
  obtain ⟨g', off', e1, h1⟩ := hA 1 b rfl
  cases e1
  obtain ⟨g', off', e1, h2⟩ := hA 2 d rfl
  cases e1
  obtain ⟨g', off', e1, h3⟩ := hA 3 e rfl
  cases e1
  exact ⟨g, off, c, rfl, have_cell (by simpa using h0), have_cell h1, have_cell h2, have_cell h3⟩
theorem range_any_succ {k : Nat} {p : Nat → Bool} : (List.range (k + 1)).any p = ((List.range k).any p || p k) := by rw [List.range_succ, List.any_append]; simp
def lab (ls : List Int) (e : Int × Int) : Int := ls.getD e.1.toNat 0
/-- a node accepts a proof of a leader -/
def leadB (idk ink : Int) (ls : List Int) (l : Int) (es : List (Int × Int)) : Bool :=
  ((List.range es.length).all fun i => lab ls (es.getD i (0, 0)) / 100 == l / 100) && ((l % 100 == 0 && idk == l / 100 && ink == 1) || (decide (0 < l % 100) && ink != 1 && (List.range es.length).any fun i => lab ls (es.getD i (0, 0)) % 100 == l % 100 - 1))
end Go.Proofs.YtlfehdikgbgloaaGreat
namespace Go.Proofs.YtlfehdikgbgloaaGreat
open Go.RowKit
end Go.Proofs.YtlfehdikgbgloaaGreat
namespace Go.Proofs.YtlfehdikgbgloaaGreat
open Go.RowKit
def ev0 (x : Int) : Int := x / 2 / 10 / 100
def ev1 (x : Int) : Int := x / 2 / 10 % 100
def ev2 (x : Int) : Int := x / 2 % 10
def ev3 (x : Int) : Int := x % 2
theorem partsE (l : Int) : partsL 5 l = [ev0 l, ev1 l, ev2 l, ev3 l] := partsL5 l
theorem ev1_bd (x : Int) : 0 ≤ ev1 x ∧ ev1 x < 100 := by unfold ev1; omega
theorem ev3_bd (x : Int) : 0 ≤ ev3 x ∧ ev3 x ≤ 1 := by unfold ev3; omega
def evHit (l : Int) (e : Int × Int) (y : Int) : Bool := e.2 == ev2 y && ev1 y == ev1 l + 1
def evSum (ls : List Int) (l : Int) (es : List (Int × Int)) : Nat → Int
  | 0 => 1
  | j + 1 => evSum ls l es j + if evHit l (es.getD j (0, 0)) (lab ls (es.getD j (0, 0))) then ev3 (lab ls (es.getD j (0, 0))) else 0
theorem evSum_bd (ls : List Int) (l : Int) (es : List (Int × Int)) (j : Nat) : 1 ≤ evSum ls l es j ∧ evSum ls l es j ≤ 1 + j := by
  induction j with
  | zero => simp [evSum]
  | succ j ih =>
    have := ev3_bd (lab ls (es.getD j (0, 0)))
    unfold evSum
    split <;> omega
def evAny (ls : List Int) (l : Int) (es : List (Int × Int)) (j : Nat) : Bool := (List.range j).any fun i => ((i : Int) == ev2 l) && (ev1 (lab ls (es.getD i (0, 0))) == ev1 l - 1)
def evAll (ls : List Int) (l : Int) (es : List (Int × Int)) (j : Nat) : Bool := (List.range j).all fun i => ev0 (lab ls (es.getD i (0, 0))) == ev0 l
/-- a node accepts a proof of an even number -/
def evenB (idk : Int) (ls : List Int) (l : Int) (es : List (Int × Int)) : Bool :=
  evAll ls l es es.length && (ev3 l == evSum ls l es es.length % 2) && ((ev1 l == 0 && ev2 l == 9 && idk == ev0 l && ev3 l == 0) || (decide (0 < ev1 l) && evAny ls l es es.length))
theorem labEnd {ls : List Int} {es : List (Int × Int)} {j : Nat} {x : Int × Int} {y : Int} (hx : es[j]? = some x) (hy : ls.getD x.1.toNat 0 = y) : lab ls (es.getD j (0, 0)) = y ∧ (es.getD j (0, 0)).2 = x.2 := by rw [getD_of hx]; exact ⟨hy, rfl⟩
theorem hitEq {ls : List Int} {es : List (Int × Int)} {j : Nat} {l x y : Int} {b : Bool} (h : lab ls (es.getD j (0, 0)) = y ∧ (es.getD j (0, 0)).2 = x) (f : (x == ev2 y && ev1 y == ev1 l + 1) = b) : evHit l (es.getD j (0, 0)) (lab ls (es.getD j (0, 0))) = b := by
  unfold evHit; rw [h.1, h.2]; exact f
end Go.Proofs.YtlfehdikgbgloaaGreat
namespace Go.Proofs.YtlfehdikgbgloaaGreat
open Go.RowKit
end Go.Proofs.YtlfehdikgbgloaaGreat
