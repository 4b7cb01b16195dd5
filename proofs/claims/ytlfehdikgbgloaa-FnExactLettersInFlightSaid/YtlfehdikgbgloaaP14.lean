/- Parts of the proof: walks of functions and plain laws. -/
import Derived.Test.YtlfehdikgbgloaaP12
import Derived.Test.YtlfehdikgbgloaaP13
import Derived.Test.YtlfehdikgbgloaaP4
import Derived.Test.YtlfehdikgbgloaaP11
import Derived.Test.YtlfehdikgbgloaaP5
namespace Go.Proofs.Ytlfehdikgbgloaa
open Go.RowKit
def connB (n : Net) : Bool := !(distB n 0).contains (-1)
def onesB (xs : List Int) : Nat := xs.countP fun x => x == 1
theorem onesB_le (xs : List Int) : onesB xs ≤ xs.length := List.countP_le_length
theorem onesB_snoc {xs : List Int} {k : Nat} {x : Int} (h : xs[k]? = some x) : onesB (xs.take (k + 1)) = onesB (xs.take k) + if x = 1 then 1 else 0 := by
  unfold onesB
  rw [take_snoc h, List.countP_append]
  congr 1
  by_cases hx : x = 1 <;> simp [hx]
end Go.Proofs.Ytlfehdikgbgloaa
namespace Go.Proofs.Ytlfehdikgbgloaa
open Go.RowKit
def rowBad (es : List (Int × Int)) : Bool := ((es.length : Int) != 2) || ((es.getD 0 (0, 0)).2 != 1)
def PredR (w0 : World) (fid : FuncId) (caps : Array Value) (p : List (Int × Int) → Bool) (xs : List (List (Int × Int))) : Prop :=
  ∀ x ∈ xs, ∀ w u, Since w0 w → EndS w u x → Calls Try.prog fid (#[u] ++ caps) w fun e w' => e = .returned (.bool (p x)) ∧ Below w.heap.size w w'
def ridx (p : List (Int × Int) → Bool) (xs : List (List (Int × Int))) : Int := match xs.findIdx? p with | some i => (i : Int) | none => -1
section
variable {α : Type} {p : α → Bool} {xs : List α}
theorem fi_none (h : xs.any p = false) : xs.findIdx? p = none := by
  rw [List.findIdx?_eq_none_iff]
  intro x hx
  rw [List.any_eq_false] at h
  simpa using h x hx
theorem fi_found {k : Nat} {x : α} (hx : xs[k]? = some x) (hp : p x = true) (h : (xs.take k).any p = false) : xs.findIdx? p = some k := by
  obtain ⟨hk, rfl⟩ := List.getElem?_eq_some_iff.1 hx
  rw [List.findIdx?_eq_some_iff_getElem]
  refine ⟨hk, hp, fun j hj => ?_⟩
  rw [List.any_eq_false] at h
  have := h xs[j] (List.mem_take_iff_getElem.2 ⟨j, by omega, rfl⟩)
  simpa using this
theorem any_snoc' {k : Nat} {x : α} (hx : xs[k]? = some x) (h : (xs.take k).any p = false) (hp : p x = false) : (xs.take (k + 1)).any p = false := by
  rw [take_snoc hx, List.any_append, h]
  simp [hp]
end
theorem ridx_any (p : List (Int × Int) → Bool) (xs : List (List (Int × Int))) : decide (0 ≤ ridx p xs) = xs.any p := by
  unfold ridx
  cases h : xs.any p with
  | false => rw [fi_none h]; rfl
  | true =>
    cases h2 : xs.findIdx? p with
    | none =>
      rw [List.findIdx?_eq_none_iff] at h2
      rw [List.any_eq_true] at h
      obtain ⟨x, hx, hp⟩ := h
      rw [h2 x hx] at hp; cases hp
    | some i => simp
end Go.Proofs.Ytlfehdikgbgloaa
namespace Go.Proofs.Ytlfehdikgbgloaa
open Go.RowKit
theorem netOk_inputs {n : Net} (h : netOk n = true) : n.inputs.length = n.ends.length := by
  unfold netOk at h
  simp only [Bool.and_eq_true] at h
  obtain ⟨⟨⟨-, -⟩, i2⟩, -⟩ := h
  unfold inputsB at i2
  simp only [Bool.and_eq_true, beq_iff_eq] at i2
  omega
def ringB (n : Net) : Bool := !n.ends.any rowBad && decide (1 < (n.ends.length : Int)) && ((onesB n.inputs : Int) == 1) && connB n
end Go.Proofs.Ytlfehdikgbgloaa
namespace Go.Proofs.Ytlfehdikgbgloaa
open Go.RowKit
def runsB (n : Net) (r : Int) : Bool := plainB n && ((r != 5) || ringB n)
def fnExactRuleRunsOn_r1 (n : Net) (r : Int) : Bool := netOk n && inB 1 5 r
def fnExactRuleRunsOn_r0 (n : Net) (r : Int) : Bool := fnExactRuleRunsOn_r1 n r && runsB n r
theorem tup2' {a b c d : Bool} (h1 : a = b) (h2 : c = d) : Ending.returned (.tuple #[.bool a, .bool c]) = .returned (.tuple #[.bool b, .bool d]) := by rw [h1, h2]
end Go.Proofs.Ytlfehdikgbgloaa
namespace Go.Proofs.Ytlfehdikgbgloaa
open Go.RowKit
def degsB (n : Net) : List Int := n.ends.map fun es => (es.length : Int)
theorem degsB_len (n : Net) : (degsB n).length = n.ends.length := by simp [degsB]
theorem degsB_at {n : Net} {k : Nat} {es : List (Int × Int)} (h : n.ends[k]? = some es) : (degsB n)[k]? = some (es.length : Int) := by simp [degsB, h]
theorem degsB_bd {n : Net} (hn : netOk n = true) : ∀ x ∈ degsB n, 0 ≤ x ∧ x ≤ 6 := by
  intro x hx
  unfold degsB at hx
  obtain ⟨es, hes, rfl⟩ := List.mem_map.1 hx
  obtain ⟨k, hk, hke⟩ := List.getElem_of_mem hes
  have := (netOk_row hn (show n.ends[k]? = some es by rw [List.getElem?_eq_getElem hk, hke])).1
  omega
set_option maxHeartbeats 4000000 in
theorem neDegrees_any (ve vi vn : Value) (n : Net) (w : World) (h : NetIn w ve vi vn n) (hn : netOk n = true) :
    Calls Try.prog 117 #[.agg #[ve, vi, vn]] w fun e w' => ∃ u, e = .returned u ∧ Own w' w.heap.size u (degsB n) ∧ Below w.heap.size w w' := by
  have hn40 := (netOk_len hn).2
  obtain ⟨w0, hw0⟩ : ∃ w0, w0 = (w).alloc (.cells #[ve, vi, vn] 31) := ⟨_, rfl⟩
  have hb0 : Below w.heap.size w w0 := by rw [hw0]; exact ((Below.refl _ _).alloc (by simp) _)
  have H := Lib.hid (h.keep hb0)
  obtain ⟨h1, h2, h3⟩ := h.keep hb0
  obtain ⟨A, c, rfl, hlc, hm, hA⟩ := h1
  obtain ⟨A2, c2, rfl, _, hm2, _⟩ := h2
  obtain ⟨A3, c3, rfl, _, hm3, _⟩ := h3
  unfold maxLen at hm hm2 hm3
  have p00 : ∀ W, Since w0 W → W.cell? ⟨w.heap.size, 0, none⟩ = some (.slice A n.ends.length c) := have_cell (by rw [hw0]; simp)
  have p01 : ∀ W, Since w0 W → W.cell? ⟨w.heap.size, 1, none⟩ = some (.slice A2 n.ids.length c2) := have_cell (by rw [hw0]; simp)
  have p02 : ∀ W, Since w0 W → W.cell? ⟨w.heap.size, 2, none⟩ = some (.slice A3 n.inputs.length c3) := have_cell (by rw [hw0]; simp)
  have Hb0 := Lib.hid hb0
  have Hw0 := Lib.hid hw0
  have HA := Lib.hid hA
  clear hA h
  clear hb0 hw0
  have hs0 : Since w0 w0 := since_refl _
  clear hn
  go_enter Try.func117, Try.ntmps117
  go_upto_region 1 with (fail)
  rw [← Hw0.out]
  go_wp2
  go_loopw [3, 9] (fun u i wr => ∃ k : Nat, k ≤ n.ends.length ∧ i = .int .i64 k ∧ Own wr w0.heap.size u ((degsB n).take k) ∧ Since w0 wr) (fun _ i _ => n.ends.length - (intOf i).toNat)
  case atStart => exact ⟨0, Nat.zero_le _, rfl, by simpa using own_nil _ w0.heap.size, hs0⟩
  case round =>
    obtain ⟨k, hk, rfl, ho, hs⟩ := hrel
    have Ho := Lib.hid ho
    have Hs := Lib.hid hs
    clear hs0 ho hs
    by_cases hlt : k < n.ends.length
    · obtain ⟨es, hes⟩ := getx n.ends k hlt
      obtain ⟨b, offr, cr, ur, hA1, hkr, hc1, hrow⟩ := row_at H.out.es hes
      cases hA1
      obtain ⟨A1, z1, rfl, hz1, hz2, hA1⟩ := hrow
      unfold maxLen at hz2
      have q5 := have_cell hc1 wr Hs.out
      have hd := degsB_at hes
      have Hlen : Hid (((degsB n).take k).length + 1 ≤ 17592186044416) := by show _ ≤ _; rw [List.length_take]; omega
      have Hnx : Hid ((degsB n).take (k + 1) = (degsB n).take k ++ [(es.length : Int)]) := take_snoc hd
      have m3 : IntKind.i64.wrap ((k : Int) + 1) = (k : Int) + 1 := wr64 _ (by omega) (by omega)
      clear hes hc1 hA1 hd
      go_wp2_with (at_builtin; refine app_int_s rfl _ _ rfl rfl (Ho.out.since (since_alloc _ (since_refl _))) wr.heap.size (es.length : Int) rfl (by simp [go_sem]) Hlen.out (since_alloc _ Hs.out) ?_; intro g cc w2 ho2 hs3)
      have Ho2 := Lib.hid ho2
      have Hs2 := Lib.hid hs3
      clear ho2 hs3
      go_wp2
      go_roundw
      case rel => exact ⟨k + 1, by omega, by go_num, by rw [Hnx.out]; have := Ho2.out; first | exact this | (rw [List.length_take] at this; exact this) | (simpa using this), Hs2.out⟩
      case measure => simp [intOf]; omega
    · obtain rfl : k = n.ends.length := by omega
      go_wp2
      go_ret
      exact ⟨_, rfl, by have := Ho.out; rw [List.take_of_length_le (by rw [degsB_len]; exact Nat.le_refl _)] at this; exact this.mono Hb0.out.size, Since.after Hb0.out Hs.out⟩
def mx (a b : Int) : Int := if b < a then a else b
def mostB (xs : List Int) : Int := xs.foldl mx 0
end Go.Proofs.Ytlfehdikgbgloaa
namespace Go.Proofs.Ytlfehdikgbgloaa
open Go.RowKit
theorem mostB_snoc {xs : List Int} {k : Nat} {x : Int} (hx : xs[k]? = some x) : mostB (xs.take (k + 1)) = mx (mostB (xs.take k)) x := by rw [take_snoc hx, mostB, List.foldl_append]; rfl
theorem mostB_bd {c : Int} : ∀ (xs : List Int) (a : Int), 0 ≤ a → a ≤ c → (∀ x ∈ xs, 0 ≤ x ∧ x ≤ c) → 0 ≤ xs.foldl mx a ∧ xs.foldl mx a ≤ c
  | [], a, h0, h1, _ => ⟨h0, h1⟩
  | x :: xs, a, h0, h1, h => by
    have hx := h x (by simp)
    have hm : 0 ≤ mx a x ∧ mx a x ≤ c := by unfold mx; split <;> omega
    exact mostB_bd xs (mx a x) hm.1 hm.2 (fun y hy => h y (List.mem_cons_of_mem _ hy))
theorem mx_max (q x : Int) : mx q x = max q x := by unfold mx; rw [Int.max_def]; split <;> split <;> omega
def countB (n : Net) (r : Int) (v : Nat) : Int := if r = 2 then mostB (degsB n) + 1 else if r = 3 then 2 else if r = 4 then ((n.ends.getD v []).length : Int) + 1 else (n.ends.length : Int) + 1
def countsB (n : Net) (r : Int) : List Int := (List.range n.ends.length).map (countB n r)
theorem most_degs {n : Net} (hn : netOk n = true) : 0 ≤ mostB (degsB n) ∧ mostB (degsB n) ≤ 6 := mostB_bd (degsB n) 0 (Int.le_refl _) (by omega) (degsB_bd hn)
end Go.Proofs.Ytlfehdikgbgloaa
namespace Go.Proofs.Ytlfehdikgbgloaa
open Go.RowKit
theorem countsB_len (n : Net) (r : Int) : (countsB n r).length = n.ends.length := by simp [countsB]
theorem countsB_at {n : Net} {r : Int} {k : Nat} (h : k < n.ends.length) : (countsB n r)[k]? = some (countB n r k) := by simp [countsB, h]
theorem countsB_const {n : Net} {r c : Int} (h : ∀ v, countB n r v = c) : countsB n r = List.replicate n.ends.length c := by
  unfold countsB
  rw [show countB n r = fun _ => c from funext h, List.map_const', List.length_range]
def ruleOkB (n : Net) (r : Int) : Bool := netOk n && inB 1 5 r && runsB n r
theorem ruleOk_net {n : Net} {r : Int} (h : (netOk n && inB 1 5 r) = true) : netOk n = true := by simp only [Bool.and_eq_true] at h; exact h.1
def fnExactStateCounts_r1 (n : Net) (r : Int) : Bool := ruleOkB n r
def fnExactStateCounts_d (n : Net) (r : Int) : List Int := if ruleOkB n r then countsB n r else []
theorem fnExactStateCounts_dl (n : Net) (r : Int) (hsz : szNet n ≤ 1048576) : (fnExactStateCounts_d n r).length ≤ 4611686018427387904 := by
  unfold fnExactStateCounts_d
  split
  · rw [countsB_len]; unfold szNet szEE at hsz; omega
  · simp
theorem tupub {u : Value} {a b : Bool} (h : a = b) : Ending.returned (.tuple #[u, .bool a]) = .returned (.tuple #[u, .bool b]) := by rw [h]
end Go.Proofs.Ytlfehdikgbgloaa
namespace Go.Proofs.Ytlfehdikgbgloaa
open Go.RowKit
/-! the plain tests of machines and states of asynchronous runs -/
def macLens2 (m : Mac) : Bool := ((m.start.length : Int) == m.degree + 1) && ((m.send.length : Int) == m.states) && ((m.output.length : Int) == m.states) && decide ((m.clauses.length : Int) ≤ 60)
def stB (m : Mac) (l : List Int) : Bool := ((l.length : Int) == ((m.start.getD 0 []).length : Int)) && inB 1 10 (l.length : Int) && allB l 0 (m.states - 1)
def macOk2 (m : Mac) : Bool := macNums m && macLens2 m && m.start.all (stB m) && m.send.all (fun l => maRowB l m.degree m.messages) && m.clauses.all (clB m) && allB m.output (-1) 9
theorem inB_true {lo hi x : Int} : inB lo hi x = true ↔ lo ≤ x ∧ x ≤ hi := by simp [inB]
theorem macOk2_eq (m : Mac) : macOk2 m = macOk m := by
  rw [Bool.eq_iff_iff]
  unfold macOk2 macOk macLens macLens2 stB maRowB
  simp only [Bool.and_eq_true, List.all_eq_true, beq_iff_eq, decide_eq_true_eq]
  constructor
  · rintro ⟨⟨⟨⟨⟨hn, ⟨⟨h1, h2⟩, h3⟩, h4⟩, h5⟩, h6⟩, h7⟩, h8⟩
    have hd : 0 ≤ m.degree := by
      unfold macNums at hn
      simp only [Bool.and_eq_true, inB_true] at hn
      exact hn.1.1.1
    have hl : 0 < m.start.length := by omega
    have h0 : m.start.getD 0 [] ∈ m.start := by
      rw [List.getD_eq_getElem?_getD, List.getElem?_eq_getElem hl]
      exact List.getElem_mem hl
    exact ⟨⟨⟨⟨hn, ⟨⟨⟨⟨⟨h1, (h5 _ h0).1.2⟩, h2⟩, h4⟩, h3⟩, h8⟩⟩, fun l hl => ⟨(h5 l hl).1.1, (h5 l hl).2⟩⟩, h6⟩, h7⟩
  · rintro ⟨⟨⟨⟨hn, ⟨⟨⟨⟨⟨h1, h0⟩, h2⟩, h4⟩, h3⟩, h8⟩⟩, h5⟩, h6⟩, h7⟩
    exact ⟨⟨⟨⟨⟨hn, ⟨⟨h1, h2⟩, h3⟩, h4⟩, fun l hl => ⟨⟨(h5 l hl).1, by rw [(h5 l hl).1]; exact h0⟩, (h5 l hl).2⟩⟩, h6⟩, h7⟩, h8⟩
/-- the machine runs on the network -/
def maOnB (m : Mac) (n : Net) : Bool := allB (degsB n) 0 m.degree && allB n.inputs 0 (((m.start.getD 0 []).length : Int) - 1)
def askedB (m : Mac) (n : Net) : Bool := macOk m && netOk n && maOnB m n
def runB (m : Mac) (n : Net) (v : Nat) : Bool := decide (((n.ends.getD v []).length : Int) ≤ m.degree) && decide (n.inputs.getD v 0 < ((m.start.getD 0 []).length : Int))
def runsOnB (m : Mac) (n : Net) : Bool := (List.range n.ends.length).all (runB m n)
theorem netOk_inp {n : Net} (hn : netOk n = true) : n.inputs.length = n.ends.length ∧ ∀ x ∈ n.inputs, 0 ≤ x := by
  unfold netOk inputsB at hn
  simp only [Bool.and_eq_true, beq_iff_eq, List.all_eq_true] at hn
  obtain ⟨⟨_, h1, h2⟩, _⟩ := hn
  exact ⟨by omega, fun x hx => (inB_true.1 (h2 x hx)).1⟩
theorem all_range {α : Type} (xs : List α) (d : α) (p : α → Bool) (q : Nat → Bool) (h : ∀ v, v < xs.length → q v = p (xs.getD v d)) : (List.range xs.length).all q = xs.all p := by
  rw [Bool.eq_iff_iff, List.all_eq_true, List.all_eq_true]
  constructor
  · intro H x hx
    obtain ⟨k, hk, rfl⟩ := List.getElem_of_mem hx
    have := H k (List.mem_range.2 hk)
    rw [h k hk, List.getD_eq_getElem?_getD, List.getElem?_eq_getElem hk] at this
    exact this
  · intro H v hv
    have hv := List.mem_range.1 hv
    rw [h v hv]
    apply H
    rw [List.getD_eq_getElem?_getD, List.getElem?_eq_getElem hv]
    exact List.getElem_mem hv
theorem all_and {α : Type} (xs : List α) (p q : α → Bool) : (xs.all fun x => p x && q x) = (xs.all p && xs.all q) := by
  induction xs with
  | nil => rfl
  | cons a r ih => simp only [List.all_cons, ih]; cases p a <;> cases q a <;> cases r.all p <;> simp
theorem runsOn_eq {m : Mac} {n : Net} (hn : netOk n = true) : runsOnB m n = maOnB m n := by
  obtain ⟨hl, hi⟩ := netOk_inp hn
  unfold runsOnB runB maOnB allB
  rw [all_and]
  congr 1
  · rw [all_range n.ends [] (fun es => decide ((es.length : Int) ≤ m.degree)) _ (fun v hv => rfl)]
    unfold degsB
    rw [List.all_map]
    first | rfl | (congr 1; funext es; simp [inB])
  · rw [← hl, all_range n.inputs 0 (fun x => decide (x < ((m.start.getD 0 []).length : Int))) _ (fun v hv => rfl)]
    rw [Bool.eq_iff_iff, List.all_eq_true, List.all_eq_true]
    constructor
    · intro H x hx
      have := H x hx
      simp only [decide_eq_true_eq] at this
      exact inB_true.2 ⟨hi x hx, by omega⟩
    · intro H x hx
      have := inB_true.1 (H x hx)
      simp only [decide_eq_true_eq]
      omega
/-- a letter that may not be on its way -/
def nletB (m : Mac) (l : Int × Int) : Bool := !inB 0 40 l.1 || !inB 0 (m.messages - 1) l.2
def letsB (m : Mac) (ls : List (Int × Int)) : Bool := decide ((ls.length : Int) ≤ 12) && !(ls.any (nletB m))
def slotB (m : Mac) (ports : Int) (slots : List Int) (flight : List (List (Int × Int))) : Bool := ((slots.length : Int) == ports) && ((flight.length : Int) == ports) && allB slots (-1) (m.messages - 1) && flight.all (letsB m)
def slotAt (m : Mac) (n : Net) (x : ASt) (v : Nat) : Bool := slotB m ((n.ends.getD v []).length : Int) (x.slots.getD v []) (x.flight.getD v [])
def syShapeB (m : Mac) (n : Net) (x : ASt) : Bool := ((x.slots.length : Int) == (n.ends.length : Int)) && ((x.flight.length : Int) == (n.ends.length : Int)) && (List.range n.ends.length).all (slotAt m n x)
def asyncOkB (m : Mac) (n : Net) (x : ASt) : Bool := ((x.rounds.length : Int) == (n.ends.length : Int)) && allB x.rounds 0 40 && maRowB x.before n.ends.length m.states && maRowB x.now n.ends.length m.states && syShapeB m n x
def syGoodB (m : Mac) (n : Net) (x : ASt) : Bool := askedB m n && asyncOkB m n x
theorem slot_false {m : Mac} {ports : Int} {slots : List Int} {flight : List (List (Int × Int))} (h : (((slots.length : Int) != ports) || ((flight.length : Int) != ports) || !allB slots (-1) (m.messages - 1)) = true) : slotB m ports slots flight = false := by
  unfold slotB
  cases h1 : allB slots (-1) (m.messages - 1)
  · simp
  · simp only [h1, Bool.not_true, Bool.or_false, Bool.or_eq_true, bne_iff_ne] at h
    rcases h with h | h
    · rw [beq_eq_false_iff_ne.2 h]; simp
    · rw [beq_eq_false_iff_ne.2 h]; simp
theorem slot_lets {m : Mac} {ports : Int} {slots : List Int} {flight : List (List (Int × Int))} (h : (((slots.length : Int) != ports) || ((flight.length : Int) != ports) || !allB slots (-1) (m.messages - 1)) = false) : slotB m ports slots flight = flight.all (letsB m) := by
  simp only [Bool.or_eq_false_iff, Bool.not_eq_false', bne_eq_false_iff_eq] at h
  unfold slotB
  rw [h.2, h.1.1, h.1.2]
  simp
theorem shape_false {m : Mac} {n : Net} {x : ASt} (h : (((x.slots.length : Int) != (n.ends.length : Int)) || ((x.flight.length : Int) != (n.ends.length : Int))) = true) : syShapeB m n x = false := by
  unfold syShapeB
  simp only [Bool.or_eq_true, bne_iff_ne] at h
  rcases h with h | h
  · rw [beq_eq_false_iff_ne.2 h]; simp
  · rw [beq_eq_false_iff_ne.2 h]; simp
theorem shape_all {m : Mac} {n : Net} {x : ASt} (h : (((x.slots.length : Int) != (n.ends.length : Int)) || ((x.flight.length : Int) != (n.ends.length : Int))) = false) : syShapeB m n x = (List.range n.ends.length).all (slotAt m n x) ∧ x.slots.length = n.ends.length ∧ x.flight.length = n.ends.length := by
  simp only [Bool.or_eq_false_iff, bne_eq_false_iff_eq] at h
  refine ⟨?_, by omega, by omega⟩
  unfold syShapeB
  rw [h.1, h.2]
  simp
theorem async_false {m : Mac} {n : Net} {x : ASt} (h : (((x.rounds.length : Int) != (n.ends.length : Int)) || !allB x.rounds 0 40 || !maRowB x.before n.ends.length m.states || !maRowB x.now n.ends.length m.states || ((x.slots.length : Int) != (n.ends.length : Int)) || ((x.flight.length : Int) != (n.ends.length : Int))) = true) : asyncOkB m n x = false := by
  unfold asyncOkB
  cases h1 : ((x.rounds.length : Int) != (n.ends.length : Int)) with
  | true => rw [beq_eq_false_iff_ne.2 (bne_iff_ne.1 h1)]; simp
  | false =>
    cases h2 : allB x.rounds 0 40 <;> cases h3 : maRowB x.before n.ends.length m.states <;> cases h4 : maRowB x.now n.ends.length m.states <;> first | (simp; done) | skip
    rw [h1, h2, h3, h4] at h
    rw [shape_false (by simpa using h)]
    simp
theorem async_all {m : Mac} {n : Net} {x : ASt} (h : (((x.rounds.length : Int) != (n.ends.length : Int)) || !allB x.rounds 0 40 || !maRowB x.before n.ends.length m.states || !maRowB x.now n.ends.length m.states || ((x.slots.length : Int) != (n.ends.length : Int)) || ((x.flight.length : Int) != (n.ends.length : Int))) = false) : asyncOkB m n x = (List.range n.ends.length).all (slotAt m n x) ∧ x.slots.length = n.ends.length ∧ x.flight.length = n.ends.length := by
  simp only [Bool.or_eq_false_iff, Bool.not_eq_false', bne_eq_false_iff_eq] at h
  obtain ⟨⟨⟨⟨⟨h1, h2⟩, h3⟩, h4⟩, h5⟩, h6⟩ := h
  obtain ⟨e1, e2, e3⟩ := shape_all (m := m) (n := n) (x := x) (by rw [h5, h6]; simp)
  refine ⟨?_, e2, e3⟩
  unfold asyncOkB
  rw [h1, h2, h3, h4, e1]
  simp
theorem asked_mac {m : Mac} {n : Net} (h : askedB m n = true) : macOk m = true := by
  unfold askedB at h
  simp only [Bool.and_eq_true] at h
  exact h.1.1
theorem asked_net {m : Mac} {n : Net} (h : askedB m n = true) : netOk n = true := by
  unfold askedB at h
  simp only [Bool.and_eq_true] at h
  exact h.1.2
end Go.Proofs.Ytlfehdikgbgloaa
