/- Parts of the proof: walks of functions and plain laws. -/
import Derived.Test.YtomnaabadohecaaGreatP8
import Derived.Test.YtomnaabadohecaaGreatP0
import Derived.Test.YtomnaabadohecaaGreatP5
import Derived.Test.YtomnaabadohecaaGreatP3
import Derived.LoopN
import Derived.RangeFuncNested
import Derived.RangeFuncBound
import Derived.RangeFuncCalls
import Derived.RangeFuncLeaves
import Derived.RangeFuncBox
import Derived.Shelf.Abstract
import Derived.Shelf.RegionOpen
import Derived.OwnWalkIn
import Derived.TacticsInMore
import Derived.LoopNIn
import Derived.LoopIn
import Derived.Test.YtomnaabadohecaaGreatP1
namespace Go.Proofs.YtomnaabadohecaaGreat
open Go.RowKit
/-! the search for solutions, plain law -/
structure Prob where
  labels : Int
  degree : Int
  nodes : List (List Int)
  edges : List (List Int)
def sortI (xs : List Int) : List Int := xs.mergeSort fun x y => decide (x ≤ y)
/-- the order of lists -/
def cmpL : List Int → List Int → Int
  | [], [] => 0
  | [], _ :: _ => -1
  | _ :: _, [] => 1
  | a :: x, b :: y => if a < b then -1 else if b < a then 1 else cmpL x y
theorem cmpL_refl (x : List Int) : cmpL x x = 0 := by
  induction x with
  | nil => rfl
  | cons a x ih => simp [cmpL, ih]
theorem cmpL_eq {x y : List Int} (h : cmpL x y = 0) : x = y := by
  induction x generalizing y with
  | nil => cases y with
    | nil => rfl
    | cons b y => simp [cmpL] at h
  | cons a x ih => cases y with
    | nil => simp [cmpL] at h
    | cons b y =>
      simp only [cmpL] at h
      split at h
      · omega
      · split at h
        · omega
        · rw [ih h, show a = b by omega]
theorem cmpL_lt_trans {x y z : List Int} (h : cmpL x y < 0) (k : cmpL y z < 0) : cmpL x z < 0 := by
  induction x generalizing y z with
  | nil => cases z with
    | nil => cases y with
      | nil => simp [cmpL] at k
      | cons => simp [cmpL] at k
    | cons => simp [cmpL]
  | cons a x ih =>
    cases y with
    | nil => simp [cmpL] at h
    | cons b y =>
      cases z with
      | nil => simp [cmpL] at k
      | cons c z =>
        simp only [cmpL] at h k ⊢
        split at h
        · split at k
          · rw [if_pos (by omega)]; omega
          · split at k
            · omega
            · rw [if_pos (by omega)]; omega
        · split at h
          · omega
          · split at k
            · rw [if_pos (by omega)]; omega
            · split at k
              · omega
              · rw [if_neg (by omega), if_neg (by omega)]
                exact ih h k
/-- what the first difference says -/
theorem cmpL_drop {x y : List Int} (k : Nat) (h : x.take k = y.take k) (hx : k ≤ x.length) (hy : k ≤ y.length) : cmpL x y = cmpL (x.drop k) (y.drop k) := by
  induction k generalizing x y with
  | zero => simp
  | succ k ih =>
    cases x with
    | nil => simp at hx
    | cons a x => cases y with
      | nil => simp at hy
      | cons b y =>
        simp only [List.take_succ_cons, List.cons.injEq] at h
        simp only [cmpL, List.drop_succ_cons]
        rw [if_neg (by omega), if_neg (by omega)]
        exact ih h.2 (by simpa using hx) (by simpa using hy)
theorem cmpL_diff {x y : List Int} (k : Nat) {a b : Int} (h : x.take k = y.take k) (hx : x[k]? = some a) (hy : y[k]? = some b) (hab : a ≠ b) : cmpL x y = if a < b then -1 else 1 := by
  have h1 := (List.getElem?_eq_some_iff.1 hx)
  have h2 := (List.getElem?_eq_some_iff.1 hy)
  obtain ⟨l1, e1⟩ := h1
  obtain ⟨l2, e2⟩ := h2
  rw [cmpL_drop k h (by omega) (by omega), List.drop_eq_getElem_cons l1, List.drop_eq_getElem_cons l2, e1, e2]
  simp only [cmpL]
  split
  · rfl
  · rw [if_pos (by omega)]
/-- strictly ordered lists -/
def Strict (l : List (List Int)) : Prop := ∀ (i j : Nat) (x y : List Int), i < j → l[i]? = some x → l[j]? = some y → cmpL x y < 0
theorem strict_of_adj {l : List (List Int)} (h : ∀ (i : Nat) (x y : List Int), l[i]? = some x → l[i + 1]? = some y → cmpL x y < 0) : Strict l := by
  intro i j x y hij hx hy
  induction j generalizing y with
  | zero => omega
  | succ j ih =>
    rcases Nat.lt_or_ge i j with h1 | h1
    · obtain ⟨z, hz⟩ : ∃ z, l[j]? = some z := by
        have := (List.getElem?_eq_some_iff.1 hy).1
        exact ⟨l[j]'(by omega), List.getElem?_eq_getElem (by omega)⟩
      exact cmpL_lt_trans (ih z h1 hz) (h j z y hz hy)
    · obtain rfl : i = j := by omega
      exact h i x y hx hy
/-- what the binary search tells -/
theorem find_iff {l : List (List Int)} {t : List Int} {i : Nat} (hs : Strict l) (h1 : ∀ k x, k < i → l[k]? = some x → cmpL x t < 0) (h2 : ∀ k x, i ≤ k → l[k]? = some x → ¬ cmpL x t < 0) :
    (match l[i]? with | some x => cmpL x t == 0 | none => false) = l.contains t := by
  have key : l.contains t = true ↔ ∃ k : Nat, l[k]? = some t := by
    rw [List.contains_iff_mem, List.mem_iff_getElem?]
  cases hx : l[i]? with
  | none =>
    symm
    rw [Bool.eq_false_iff]
    intro hc
    obtain ⟨k, hk⟩ := key.1 hc
    have e1 : l.length ≤ i := List.getElem?_eq_none_iff.1 hx
    have e2 := (List.getElem?_eq_some_iff.1 hk).1
    have := h1 k t (by omega) hk
    rw [cmpL_refl] at this
    omega
  | some x =>
    by_cases h0 : cmpL x t = 0
    · have := cmpL_eq h0
      subst this
      simp only [h0, beq_self_eq_true]
      exact (key.2 ⟨i, hx⟩).symm
    · have hf : (cmpL x t == 0) = false := by simpa using h0
      simp only [hf]
      symm
      rw [Bool.eq_false_iff]
      intro hc
      obtain ⟨k, hk⟩ := key.1 hc
      rcases Nat.lt_trichotomy k i with h | h | h
      · have := h1 k t h hk
        rw [cmpL_refl] at this
        omega
      · subst h; rw [hx] at hk; cases hk; exact h0 (cmpL_refl _)
      · have := hs i k x t h hx hk
        exact h2 i x (Nat.le_refl _) hx this
/-- a list of configurations -/
def sortedB (c : List Int) : Bool := (List.range (c.length - 1)).all fun i => decide (c.getD i 0 ≤ c.getD (i + 1) 0)
def rowB (size labels : Int) (c : List Int) : Bool := ((c.length : Int) == size) && (sortedB c && allB c 0 (labels - 1))
def cfgAt (l : List (List Int)) (size labels : Int) (i : Nat) : Bool := rowB size labels (l.getD i []) && (i == 0 || decide (cmpL (l.getD (i - 1) []) (l.getD i []) < 0))
def cfgs (l : List (List Int)) (size labels : Int) : Bool := (List.range l.length).all (cfgAt l size labels)
theorem cfgs_iff {l : List (List Int)} {size labels : Int} : cfgs l size labels = true ↔ ∀ i, i < l.length → cfgAt l size labels i = true := by simp [cfgs, List.all_eq_true]
theorem cfgs_no {l : List (List Int)} {size labels : Int} {i : Nat} (hi : i < l.length) (h : cfgAt l size labels i = false) : cfgs l size labels = false := by
  rw [Bool.eq_false_iff]
  intro hc
  rw [cfgs_iff.1 hc i hi] at h
  cases h
theorem cfgs_strict {l : List (List Int)} {size labels : Int} (h : cfgs l size labels = true) : Strict l := by
  apply strict_of_adj
  intro i x y hx hy
  have h1 := (List.getElem?_eq_some_iff.1 hy).1
  have h2 := cfgs_iff.1 h (i + 1) h1
  unfold cfgAt at h2
  simp only [Bool.and_eq_true, Bool.or_eq_true, Nat.add_sub_cancel, List.getD_eq_getElem?_getD, hx, hy, Option.getD_some, decide_eq_true_eq] at h2
  rcases h2.2 with h3 | h3
  · simp at h3
  · exact h3
def prOk (p : Prob) : Bool := inB 1 8 p.labels && (inB 1 4 p.degree && (cfgs p.nodes p.degree p.labels && cfgs p.edges 2 p.labels))
/-- a sorted list has all labels of another -/
def inclB (c : List Int) : List Int → Bool
  | [] => true
  | a :: l => match c.dropWhile (fun x => decide (x < a)) with
    | [] => false
    | x :: r => (x == a) && inclB r l
theorem incl_skip {c l : List Int} {k : Nat} {x a : Int} (hx : c[k]? = some x) (h : x < a) : inclB (c.drop k) (a :: l) = inclB (c.drop (k + 1)) (a :: l) := by
  obtain ⟨h1, h2⟩ := List.getElem?_eq_some_iff.1 hx
  rw [List.drop_eq_getElem_cons h1, h2]
  simp [inclB, h]
theorem incl_hit {c l : List Int} {k : Nat} {a : Int} (hx : c[k]? = some a) : inclB (c.drop k) (a :: l) = inclB (c.drop (k + 1)) l := by
  obtain ⟨h1, h2⟩ := List.getElem?_eq_some_iff.1 hx
  rw [List.drop_eq_getElem_cons h1, h2]
  simp [inclB]
theorem incl_end {c l : List Int} {k : Nat} {a : Int} (h : c.length ≤ k) : inclB (c.drop k) (a :: l) = false := by
  rw [List.drop_eq_nil_iff.2 h]
  simp [inclB]
theorem incl_miss {c l : List Int} {k : Nat} {x a : Int} (hx : c[k]? = some x) (h : ¬ x < a) (hn : x ≠ a) : inclB (c.drop k) (a :: l) = false := by
  obtain ⟨h1, h2⟩ := List.getElem?_eq_some_iff.1 hx
  rw [List.drop_eq_getElem_cons h1, h2]
  simp [inclB, h, hn]
def known (row : List Int) : List Int := row.filter fun a => decide (0 ≤ a)
def nodeB (p : Prob) (row : List Int) : Bool := !((row.length : Int) == p.degree) || p.nodes.any fun c => inclB c (sortI (known row))
def edgeB (p : Prob) (a b : Int) : Bool := p.edges.contains [min a b, max a b]
theorem sortI_sorted (xs : List Int) : (sortI xs).Pairwise (· ≤ ·) := by
  have := List.pairwise_mergeSort (le := fun x y : Int => decide (x ≤ y)) (by intro _ _ _; simp; omega) (by intro _ _; simp; omega) xs
  exact this.imp (by simp)
theorem sortI_perm (xs : List Int) : (sortI xs).Perm xs := List.mergeSort_perm _ _
theorem sort_unique {xs ys : List Int} (h : xs.Perm ys) (h1 : xs.Pairwise (· ≤ ·)) (h2 : ys.Pairwise (· ≤ ·)) : xs = ys :=
  List.Perm.eq_of_pairwise (fun _ _ _ _ h1 h2 => Int.le_antisymm h1 h2) h1 h2 h
theorem sort_filter (xs : List Int) (q : Int → Bool) : sortI (xs.filter q) = (sortI xs).filter q :=
  sort_unique ((sortI_perm _).trans ((sortI_perm xs).symm.filter q)) (sortI_sorted _) ((sortI_sorted xs).filter q)
theorem sort_pair (a b : Int) : sortI [a, b] = [min a b, max a b] := by
  apply sort_unique
  · refine (sortI_perm _).trans ?_
    rcases Int.le_total a b with h | h
    · rw [Int.min_eq_left h, Int.max_eq_right h]
    · rw [Int.min_eq_right h, Int.max_eq_left h]
      exact List.Perm.swap _ _ _
  · exact sortI_sorted _
  · simp; omega
def cellB (l : List (List Int)) (e : Int × Int) : Int := (l.getD e.1.toNat []).getD e.2.toNat 0
def portB (p : Prob) (ends : List (List (Int × Int))) (l : List (List Int)) (e : Int × Int) : Bool :=
  let f := (ends.getD e.1.toNat []).getD e.2.toNat (0, 0)
  decide (cellB l e < 0) || (decide (cellB l f < 0) || edgeB p (cellB l e) (cellB l f))
def holdsRow (p : Prob) (ends : List (List (Int × Int))) (l : List (List Int)) (v : Nat) : Bool :=
  nodeB p (l.getD v []) && (List.range (l.getD v []).length).all fun i => portB p ends l ((v : Int), (i : Int))
def holdsB (p : Prob) (ends : List (List (Int × Int))) (l : List (List Int)) : Bool := (List.range l.length).all (holdsRow p ends l)
def freeR (v : Nat) (row : List Int) : List (Int × Int) := ((List.range row.length).filter fun i => decide (row.getD i 0 < 0)).map fun i => ((v : Int), ((i : Nat) : Int))
def freeU (l : List (List Int)) (k : Nat) : List (Int × Int) := (List.range k).flatMap fun v => freeR v (l.getD v [])
def freeP (l : List (List Int)) : List (Int × Int) := freeU l l.length
def freeRU (v : Nat) (row : List Int) (k : Nat) : List (Int × Int) := ((List.range k).filter fun i => decide (row.getD i 0 < 0)).map fun i => ((v : Int), ((i : Nat) : Int))
theorem freeU_succ (l : List (List Int)) (k : Nat) : freeU l (k + 1) = freeU l k ++ freeR k (l.getD k []) := by simp [freeU, List.range_succ]
theorem freeRU_succ (v : Nat) (row : List Int) (k : Nat) : freeRU v row (k + 1) = freeRU v row k ++ (if row.getD k 0 < 0 then [((v : Int), (k : Int))] else []) := by
  unfold freeRU
  rw [List.range_succ, List.filter_append, List.map_append]
  congr 1
  by_cases h : row.getD k 0 < 0
  · rw [if_pos h, List.filter_cons_of_pos (by simpa using h)]; rfl
  · rw [if_neg h, List.filter_cons_of_neg (by simpa using h)]; rfl
def putB (l : List (List Int)) (e : Int × Int) (x : Int) : List (List Int) := l.set e.1.toNat ((l.getD e.1.toNat []).set e.2.toNat x)
/-- the search: fuel, labeling, position, steps -/
abbrev SoR := Int × List (List Int) × Int × Int
def soGo (p : Prob) (ends : List (List (Int × Int))) (ports : List (Int × Int)) (most : Int) : Nat → List (List Int) → Int → Int → SoR
  | 0, l, pos, st => (0, l, pos, st)
  | f + 1, l, pos, st =>
    if pos < 0 then (2, l, pos, st)
    else if pos = ports.length then (1, l, pos, st)
    else
      let e := ports.getD pos.toNat (0, 0)
      if cellB l e = p.labels - 1 then soGo p ends ports most f (putB l e (-1)) (pos - 1) st
      else if st = most then (3, l, pos, st)
      else
        let l' := putB l e (cellB l e + 1)
        if nodeB p (l'.getD e.1.toNat []) && portB p ends l' e then soGo p ends ports most f l' (pos + 1) (st + 1)
        else soGo p ends ports most f l' pos (st + 1)
/-- the search that asks at each solution whether it goes on -/
def soAll {σ : Type} (nx : σ → List (List Int) → Bool × σ) (p : Prob) (ends : List (List (Int × Int))) (ports : List (Int × Int)) (most : Int) : Nat → σ → List (List Int) → Int → Int → σ × SoR
  | 0, s, l, pos, st => (s, 0, l, pos, st)
  | f + 1, s, l, pos, st =>
    if pos < 0 then (s, 2, l, pos, st)
    else if pos = ports.length then
      if (nx s l).1 then soAll nx p ends ports most f (nx s l).2 l (pos - 1) st else ((nx s l).2, 1, l, pos, st)
    else
      let e := ports.getD pos.toNat (0, 0)
      if cellB l e = p.labels - 1 then soAll nx p ends ports most f s (putB l e (-1)) (pos - 1) st
      else if st = most then (s, 3, l, pos, st)
      else
        let l' := putB l e (cellB l e + 1)
        if nodeB p (l'.getD e.1.toNat []) && portB p ends l' e then soAll nx p ends ports most f s l' (pos + 1) (st + 1)
        else soAll nx p ends ports most f s l' pos (st + 1)
/-- how long it goes on at most -/
def soMeas (most pos st : Int) : Nat := (2 * (most - st) + pos + 2).toNat
theorem soGo_fuel (p : Prob) (ends : List (List (Int × Int))) (ports : List (Int × Int)) (most : Int) (f g : Nat) (l : List (List Int)) (pos st : Int) (hst : st ≤ most) (hp : -1 ≤ pos) (hf : soMeas most pos st ≤ f) (hg : soMeas most pos st ≤ g) : soGo p ends ports most f l pos st = soGo p ends ports most g l pos st := by
  unfold soMeas at hf hg
  induction f generalizing g l pos st with
  | zero => omega
  | succ f ih =>
    cases g with
    | zero => omega
    | succ g =>
      simp only [soGo]
      by_cases h1 : pos < 0
      · rw [if_pos h1, if_pos h1]
      · rw [if_neg h1, if_neg h1]
        by_cases h2 : pos = ports.length
        · rw [if_pos h2, if_pos h2]
        · rw [if_neg h2, if_neg h2]
          by_cases h3 : cellB l (ports.getD pos.toNat (0, 0)) = p.labels - 1
          · rw [if_pos h3, if_pos h3]
            exact ih g _ _ _ hst (by omega) (by omega) (by omega)
          · rw [if_neg h3, if_neg h3]
            by_cases h4 : st = most
            · rw [if_pos h4, if_pos h4]
            · rw [if_neg h4, if_neg h4, ih g _ (pos + 1) (st + 1) (by omega) (by omega) (by omega) (by omega), ih g _ pos (st + 1) (by omega) (by omega) (by omega) (by omega)]
theorem soAll_fuel {σ : Type} (nx : σ → List (List Int) → Bool × σ) (p : Prob) (ends : List (List (Int × Int))) (ports : List (Int × Int)) (most : Int) (f g : Nat) (s : σ) (l : List (List Int)) (pos st : Int) (hst : st ≤ most) (hp : -1 ≤ pos) (hf : soMeas most pos st ≤ f) (hg : soMeas most pos st ≤ g) : soAll nx p ends ports most f s l pos st = soAll nx p ends ports most g s l pos st := by
  unfold soMeas at hf hg
  induction f generalizing g s l pos st with
  | zero => omega
  | succ f ih =>
    cases g with
    | zero => omega
    | succ g =>
      simp only [soAll]
      by_cases h1 : pos < 0
      · rw [if_pos h1, if_pos h1]
      · rw [if_neg h1, if_neg h1]
        by_cases h2 : pos = ports.length
        · rw [if_pos h2, if_pos h2, ih g _ _ (pos - 1) st hst (by omega) (by omega) (by omega)]
        · rw [if_neg h2, if_neg h2]
          by_cases h3 : cellB l (ports.getD pos.toNat (0, 0)) = p.labels - 1
          · rw [if_pos h3, if_pos h3]
            exact ih g _ _ _ _ hst (by omega) (by omega) (by omega)
          · rw [if_neg h3, if_neg h3]
            by_cases h4 : st = most
            · rw [if_pos h4, if_pos h4]
            · rw [if_neg h4, if_neg h4, ih g _ _ (pos + 1) (st + 1) (by omega) (by omega) (by omega) (by omega), ih g _ _ pos (st + 1) (by omega) (by omega) (by omega) (by omega)]
/-- one step, the fuel as it was -/
theorem soGo_step (p : Prob) (ends : List (List (Int × Int))) (ports : List (Int × Int)) (most : Int) (f : Nat) (l : List (List Int)) (pos st : Int) (hst : st ≤ most) (hp : -1 ≤ pos) (hf : soMeas most pos st ≤ f) :
    soGo p ends ports most f l pos st = (if pos < 0 then (2, l, pos, st)
    else if pos = ports.length then (1, l, pos, st)
    else
      let e := ports.getD pos.toNat (0, 0)
      if cellB l e = p.labels - 1 then soGo p ends ports most f (putB l e (-1)) (pos - 1) st
      else if st = most then (3, l, pos, st)
      else
        let l' := putB l e (cellB l e + 1)
        if nodeB p (l'.getD e.1.toNat []) && portB p ends l' e then soGo p ends ports most f l' (pos + 1) (st + 1)
        else soGo p ends ports most f l' pos (st + 1)) := by
  rw [soGo_fuel p ends ports most f (f + 1) l pos st hst hp hf (by omega)]
  unfold soMeas at hf
  simp only [soGo]
theorem soAll_step {σ : Type} (nx : σ → List (List Int) → Bool × σ) (p : Prob) (ends : List (List (Int × Int))) (ports : List (Int × Int)) (most : Int) (f : Nat) (s : σ) (l : List (List Int)) (pos st : Int) (hst : st ≤ most) (hp : -1 ≤ pos) (hf : soMeas most pos st ≤ f) :
    soAll nx p ends ports most f s l pos st = (if pos < 0 then (s, 2, l, pos, st)
    else if pos = ports.length then
      if (nx s l).1 then soAll nx p ends ports most f (nx s l).2 l (pos - 1) st else ((nx s l).2, 1, l, pos, st)
    else
      let e := ports.getD pos.toNat (0, 0)
      if cellB l e = p.labels - 1 then soAll nx p ends ports most f s (putB l e (-1)) (pos - 1) st
      else if st = most then (s, 3, l, pos, st)
      else
        let l' := putB l e (cellB l e + 1)
        if nodeB p (l'.getD e.1.toNat []) && portB p ends l' e then soAll nx p ends ports most f s l' (pos + 1) (st + 1)
        else soAll nx p ends ports most f s l' pos (st + 1)) := by
  rw [soAll_fuel nx p ends ports most f (f + 1) s l pos st hst hp hf (by omega)]
  simp only [soAll]
/-- where a search ends -/
theorem soGo_end (p : Prob) (ends : List (List (Int × Int))) (ports : List (Int × Int)) (most : Int) (f : Nat) (l : List (List Int)) (pos st : Int) (hst : st ≤ most) (hp : -1 ≤ pos) (hp2 : pos ≤ ports.length) (hf : soMeas most pos st ≤ f) :
    let r := soGo p ends ports most f l pos st
    r.2.2.2 ≤ most ∧ -1 ≤ r.2.2.1 ∧ r.2.2.1 ≤ ports.length ∧ st ≤ r.2.2.2 ∧ soMeas most r.2.2.1 r.2.2.2 ≤ soMeas most pos st ∧ (r.1 = 1 → r.2.2.1 = ports.length) ∧ (r.1 = 1 ∨ r.1 = 2 ∨ r.1 = 3) := by
  unfold soMeas at hf ⊢
  induction f generalizing l pos st with
  | zero => omega
  | succ f ih =>
    simp only [soGo]
    by_cases h1 : pos < 0
    · rw [if_pos h1]; simp; omega
    · rw [if_neg h1]
      by_cases h2 : pos = ports.length
      · rw [if_pos h2]; simp; omega
      · rw [if_neg h2]
        by_cases h3 : cellB l (ports.getD pos.toNat (0, 0)) = p.labels - 1
        · rw [if_pos h3]
          obtain ⟨a1, a2, a3, a4, a5, a6, a7⟩ := ih (putB l (ports.getD pos.toNat (0, 0)) (-1)) (pos - 1) st hst (by omega) (by omega) (by omega)
          exact ⟨a1, a2, a3, a4, by omega, a6, a7⟩
        · rw [if_neg h3]
          by_cases h4 : st = most
          · rw [if_pos h4]; simp; omega
          · rw [if_neg h4]
            by_cases h5 : (nodeB p ((putB l (ports.getD pos.toNat (0, 0)) (cellB l (ports.getD pos.toNat (0, 0)) + 1)).getD (ports.getD pos.toNat (0, 0)).1.toNat []) && portB p ends (putB l (ports.getD pos.toNat (0, 0)) (cellB l (ports.getD pos.toNat (0, 0)) + 1)) (ports.getD pos.toNat (0, 0))) = true
            · rw [if_pos h5]
              obtain ⟨a1, a2, a3, a4, a5, a6, a7⟩ := ih (putB l (ports.getD pos.toNat (0, 0)) (cellB l (ports.getD pos.toNat (0, 0)) + 1)) (pos + 1) (st + 1) (by omega) (by omega) (by omega) (by omega)
              exact ⟨a1, a2, a3, by omega, by omega, a6, a7⟩
            · rw [if_neg h5]
              obtain ⟨a1, a2, a3, a4, a5, a6, a7⟩ := ih (putB l (ports.getD pos.toNat (0, 0)) (cellB l (ports.getD pos.toNat (0, 0)) + 1)) pos (st + 1) (by omega) (by omega) (by omega) (by omega)
              exact ⟨a1, a2, a3, by omega, by omega, a6, a7⟩
/-- the search that asks, in terms of the one that does not -/
theorem soAll_go {σ : Type} (nx : σ → List (List Int) → Bool × σ) (p : Prob) (ends : List (List (Int × Int))) (ports : List (Int × Int)) (most : Int) (f g : Nat) (s : σ) (l : List (List Int)) (pos st : Int)
    (hst : st ≤ most) (hp : -1 ≤ pos) (hp2 : pos ≤ ports.length) (hf : soMeas most pos st ≤ f) (hg : soMeas most pos st ≤ g) :
    soAll nx p ends ports most f s l pos st = (let r := soGo p ends ports most f l pos st
      if r.1 = 1 then (if (nx s r.2.1).1 then soAll nx p ends ports most g (nx s r.2.1).2 r.2.1 (r.2.2.1 - 1) r.2.2.2 else ((nx s r.2.1).2, r)) else (s, r)) := by
  unfold soMeas at hf hg
  induction f generalizing l pos st with
  | zero => omega
  | succ f ih =>
    simp only [soGo, soAll]
    by_cases h1 : pos < 0
    · simp [h1]
    · rw [if_neg h1, if_neg h1]
      by_cases h2 : pos = ports.length
      · rw [if_pos h2, if_pos h2]
        simp only [if_true]
        rw [soAll_fuel nx p ends ports most f g _ l (pos - 1) st hst (by omega) (by unfold soMeas; omega) (by unfold soMeas; omega)]
      · rw [if_neg h2, if_neg h2]
        by_cases h3 : cellB l (ports.getD pos.toNat (0, 0)) = p.labels - 1
        · rw [if_pos h3, if_pos h3]
          exact ih _ _ _ hst (by omega) (by omega) (by omega) (by omega)
        · rw [if_neg h3, if_neg h3]
          by_cases h4 : st = most
          · rw [if_pos h4, if_pos h4]; simp
          · rw [if_neg h4, if_neg h4]
            by_cases h5 : (nodeB p ((putB l (ports.getD pos.toNat (0, 0)) (cellB l (ports.getD pos.toNat (0, 0)) + 1)).getD (ports.getD pos.toNat (0, 0)).1.toNat []) && portB p ends (putB l (ports.getD pos.toNat (0, 0)) (cellB l (ports.getD pos.toNat (0, 0)) + 1)) (ports.getD pos.toNat (0, 0))) = true
            · rw [if_pos h5, if_pos h5]
              exact ih _ (pos + 1) (st + 1) (by omega) (by omega) (by omega) (by omega) (by omega)
            · rw [if_neg h5, if_neg h5]
              exact ih _ pos (st + 1) (by omega) (by omega) (by omega) (by omega) (by omega)
end Go.Proofs.YtomnaabadohecaaGreat
namespace Go.Proofs.YtomnaabadohecaaGreat
open Go.RowKit
/-! problems (written by tools/probgen.py) -/
def PrIn (w : World) (a b : Value) (x : Prob) : Prop := IntSS w a x.nodes ∧ IntSS w b x.edges
theorem PrIn.keep {w w' : World} {a b : Value} {x : Prob} (h : PrIn w a b x) (hb : Below w.heap.size w w') : PrIn w' a b x := ⟨h.1.keep hb, h.2.keep hb⟩
def szPr (x : Prob) : Nat := szII x.nodes + szII x.edges
set_option maxHeartbeats 4000000 in
theorem szProblem_any (a b : Value) (x : Prob) (l : Int) (hl : 0 ≤ l) (hl2 : l ≤ 1048576) (w : World) (h : PrIn w a b x) : Calls Tryz.prog 36 #[.agg #[.int .i64 x.labels, .int .i64 x.degree, a, b], .int .i64 l] w fun e w' => e = .returned (.int .i64 (left l (szPr x))) ∧ Below w.heap.size w w' := by
  obtain ⟨A1, z1, hv1, _⟩ := id h.1
  obtain ⟨A2, z2, hv2, _⟩ := id h.2
  obtain ⟨w0, hw0⟩ : ∃ w0, w0 = w.alloc (.cells #[.int .i64 x.labels, .int .i64 x.degree, a, b] 70) := ⟨_, rfl⟩
  have hb0 : Below w.heap.size w w0 := by rw [hw0]; exact below_alloc _ _
  have p0 : ∀ W, Since w0 W → W.cell? ⟨w.heap.size, 2, none⟩ = some a := fun W hW => bc hW (by rw [hw0]; simp)
  have p1 : ∀ W, Since w0 W → W.cell? ⟨w.heap.size, 3, none⟩ = some b := fun W hW => bc hW (by rw [hw0]; simp)
  have HN := Lib.hid (h.keep hb0)
  have Hb0 := Lib.hid hb0
  have Hw0 := Lib.hid hw0
  clear h hb0 hw0
  subst hv1 hv2
  by_cases c1 : l - (szII x.nodes : Nat) < 0
  · have hr := Lib.hid (show left l (szPr x) = -1 from left_neg (n := szII x.nodes) (by omega) (by unfold szPr; omega))
    have e1 : left l (szII x.nodes) = -1 := left_neg c1 (Nat.le_refl _)
    go_enter Tryz.func36, Tryz.ntmps36
    go_wp2_with fail
    rw [← Hw0.out]
    have hs0 : Since w0 w0 := since_refl _
    refine (szIntSS_any _ x.nodes l hl hl2 _ (by exact (HN.out.keep hs0).1)).mono ?_
    rw [e1]
    rintro e w' ⟨rfl, rfl⟩
    have hs1 := hs0
    go_wp2
    go_ret
    exact ⟨ret_int hr.out.symm, Hb0.out.trans (hs1.mono Hb0.out.size)⟩
  · have e1 : left l (szII x.nodes) = l - (szII x.nodes : Nat) := left_pos c1
    obtain ⟨t1, ht1⟩ : ∃ t, t = l - (szII x.nodes : Nat) := ⟨_, rfl⟩
    rw [← ht1] at e1 c1
    have hp1 : 0 ≤ t1 := by omega
    have hq1 : t1 ≤ 1048576 := by omega
    obtain ⟨q, hq⟩ : ∃ q, q = left t1 (szII x.edges) := ⟨_, rfl⟩
    have hr := Lib.hid (show left l (szPr x) = q by rw [hq]; unfold left szPr; split <;> split <;> omega)
    by_cases c9 : q < 0
    · have hq1 : q = -1 := by rw [hq]; unfold left; split <;> (unfold left at hq; split at hq <;> omega)
      have Ht1 := Lib.hid ht1
      clear ht1
      have Hq := Lib.hid hq
      clear hq
      subst hq1
      go_enter Tryz.func36, Tryz.ntmps36
      go_wp2_with fail
      rw [← Hw0.out]
      have hs0 : Since w0 w0 := since_refl _
      refine (szIntSS_any _ x.nodes l hl hl2 _ (by exact (HN.out.keep hs0).1)).mono ?_
      rw [e1]
      rintro e w' ⟨rfl, rfl⟩
      have hs1 := hs0
      go_wp2_with fail
      refine (szIntSS_any _ x.edges t1 hp1 hq1 _ (by exact (HN.out.keep hs1).2)).mono ?_
      rw [← Hq.out]
      rintro e w' ⟨rfl, rfl⟩
      have hs2 := hs1
      go_wp2
      go_ret
      exact ⟨ret_int hr.out.symm, Hb0.out.trans (hs2.mono Hb0.out.size)⟩
    · skip
      have Ht1 := Lib.hid ht1
      clear ht1
      have Hq := Lib.hid hq
      clear hq
      go_enter Tryz.func36, Tryz.ntmps36
      go_wp2_with fail
      rw [← Hw0.out]
      have hs0 : Since w0 w0 := since_refl _
      refine (szIntSS_any _ x.nodes l hl hl2 _ (by exact (HN.out.keep hs0).1)).mono ?_
      rw [e1]
      rintro e w' ⟨rfl, rfl⟩
      have hs1 := hs0
      go_wp2_with fail
      refine (szIntSS_any _ x.edges t1 hp1 hq1 _ (by exact (HN.out.keep hs1).2)).mono ?_
      rw [← Hq.out]
      rintro e w' ⟨rfl, rfl⟩
      have hs2 := hs1
      go_wp2
      go_ret
      exact ⟨ret_int hr.out.symm, Hb0.out.trans (hs2.mono Hb0.out.size)⟩
set_option maxHeartbeats 4000000 in
theorem eqProblem_same (a b a' b' : Value) (x : Prob) (w : World) (h : PrIn w a b x) (h' : PrIn w a' b' x) : Calls Tryz.prog 40 #[.agg #[.int .i64 x.labels, .int .i64 x.degree, a, b], .agg #[.int .i64 x.labels, .int .i64 x.degree, a', b']] w fun e w' => e = .returned (.bool true) ∧ Below w.heap.size w w' := by
  obtain ⟨A1, z1, hv1, _⟩ := id h.1
  obtain ⟨A2, z2, hv2, _⟩ := id h.2
  obtain ⟨C1, y1, hu1, _⟩ := id h'.1
  obtain ⟨C2, y2, hu2, _⟩ := id h'.2
  obtain ⟨w0, hw0⟩ : ∃ w0, w0 = (w.alloc (.cells #[.int .i64 x.labels, .int .i64 x.degree, a, b] 74)).alloc (.cells #[.int .i64 x.labels, .int .i64 x.degree, a', b'] 74) := ⟨_, rfl⟩
  have hb0 : Below w.heap.size w w0 := by rw [hw0]; exact ((Below.refl _ _).alloc (Nat.le_refl _) _).alloc (by simp) _
  have p0 : ∀ W, Since w0 W → W.cell? ⟨w.heap.size, 2, none⟩ = some a := fun W hW => bc hW (by rw [hw0]; simp)
  have q0 : ∀ W, Since w0 W → W.cell? ⟨w.heap.size + 1, 2, none⟩ = some a' := fun W hW => bc hW (by rw [hw0]; simp)
  have p1 : ∀ W, Since w0 W → W.cell? ⟨w.heap.size, 3, none⟩ = some b := fun W hW => bc hW (by rw [hw0]; simp)
  have q1 : ∀ W, Since w0 W → W.cell? ⟨w.heap.size + 1, 3, none⟩ = some b' := fun W hW => bc hW (by rw [hw0]; simp)
  have HN := Lib.hid (h.keep hb0)
  have HN' := Lib.hid (h'.keep hb0)
  have Hw0 := Lib.hid hw0
  have Hb0 := Lib.hid hb0
  clear h h' hb0 hw0
  subst hv1 hu1 hv2 hu2
  go_enter Tryz.func40, Tryz.ntmps40
  go_wp2_with fail
  rw [← Hw0.out]
  have hs0 : Since w0 w0 := since_refl _
  refine (eqIntSS_any _ _ x.nodes x.nodes _ (by exact (HN.out.keep hs0).1) (by exact (HN'.out.keep hs0).1)).mono ?_
  rw [decide_eq_true rfl]
  rintro e w1 ⟨rfl, hb1⟩
  have hs1 : Since w0 w1 := Since.trans hs0 hb1
  clear hb1
  go_wp2_with fail
  refine (eqIntSS_any _ _ x.edges x.edges _ (by exact (HN.out.keep hs1).2) (by exact (HN'.out.keep hs1).2)).mono ?_
  rw [decide_eq_true rfl]
  rintro e w2 ⟨rfl, hb2⟩
  have hs2 : Since w0 w2 := Since.trans hs1 hb2
  clear hb2
  go_wp2
  go_ret
  exact ⟨rfl, Hb0.out.trans (hs2.mono Hb0.out.size)⟩
end Go.Proofs.YtomnaabadohecaaGreat
namespace Go.Proofs.YtomnaabadohecaaGreat
open Go.ChangeShapes Go.WideShapes Go.ChangeAt Go.RowKit Go.Joins Go.Deep
/-! problems and lists of lists, opened -/
section
variable {H : Type} {enc : TypeId × Value → H} {W : World}
set_option maxRecDepth 100000 in
theorem open_ss2 {n : Nat} {v : Value} {y : DataW H × List MemPlace} (h : DataW.trod enc Tryz.prog W 0 (fun _ => true) true n 22 [v] = some y) : ∃ ess, IntSS W v ess ∧ ∀ es ∈ ess, I64s es := by
  rcases open_slice Tryz.underlying22 h with ⟨hcs, _⟩ | ⟨a, len, cap, m, n', D, Pl, hcs, _, hl, hm, hmm, _, hall⟩
  · simp at hcs; subst hcs
    exact ⟨[], ⟨none, 0, rfl, Nat.le_refl _, Nat.zero_le _, fun k e hk => by simp at hk⟩, by simp⟩
  · simp at hcs; subst hcs
    simp only [if_true] at hmm
    subst hmm
    have hc1 : Tryz.prog.cellsOf 24 = 1 := by kernel_rfl
    have each : ∀ i, ∃ u es, i < m → W.cell? (a.add i) = some u ∧ IntS W u es ∧ I64s es := fun i => by
      by_cases hi : i < m
      · obtain ⟨cs', h1, h2⟩ := hall i hi
        rw [hc1, Nat.mul_one] at h1
        obtain ⟨_, hlen, hcell⟩ := World.cells?_some h1
        match cs', hlen with
        | [u], _ =>
          have := hcell 0 (by omega)
          obtain ⟨es, h3, h4⟩ := open_ints1 h2
          refine ⟨u, es, fun _ => ⟨?_, h3, h4⟩⟩
          simpa [Addr.add] using this
      · exact ⟨.bool true, [], fun h => absurd h hi⟩
    obtain ⟨U, hU⟩ := Classical.axiomOfChoice each
    obtain ⟨E, hE⟩ := Classical.axiomOfChoice hU
    refine ⟨(List.range len).map E, ⟨some a, m, by simp, by simpa using hl, hm, fun k e hk => ?_⟩, fun e he => ?_⟩
    · have hk' : k < len := by have := lt_of_get hk; simpa using this
      obtain ⟨h1, h2, _⟩ := hE k (by omega)
      obtain ⟨b, off, rfl⟩ := plain_of_cell (hE 0 (by omega)).1
      rw [add_plain] at h1
      simp [hk'] at hk
      subst hk
      exact ⟨b, off, U k, rfl, h1, h2⟩
    · obtain ⟨k, hk, rfl⟩ := List.mem_map.1 he
      exact (hE k (by have := List.mem_range.1 hk; omega)).2.2
theorem array4p {α : Type} {cs : Array α} (h : cs.size = 4) : ∃ c0 c1 c2 c3, cs = #[c0, c1, c2, c3] := by
  obtain ⟨l⟩ := cs
  match l, h with
  | [c0, c1, c2, c3], _ => exact ⟨c0, c1, c2, c3, rfl⟩
theorem open_agg4p {P : Program} {r : Reach} {b0 base : Nat} {spare : Nat → Bool} {held : Bool} {t : TypeId} {f0 f1 f2 f3 : Field} {v : Value} {d : DataW H} {p : List MemPlace} (hs : P.underlying t = some (.struct #[f0, f1, f2, f3])) (hone : oneCellFields P #[f0, f1, f2, f3] = true) (hC : P.cellsOf t = 4)
    (hv : Value.okWide P W r b0 t v) (h : DataW.Trod enc P W base spare held t v d p) :
    ∃ (v0 v1 v2 v3 : Value) (y0 y1 y2 y3 : DataW H × List MemPlace) (n : Nat), v = .agg #[v0, v1, v2, v3] ∧ DataW.trod enc P W base spare held n f0.type [v0] = some y0 ∧ DataW.trod enc P W base spare held n f1.type [v1] = some y1 ∧ DataW.trod enc P W base spare held n f2.type [v2] = some y2 ∧ DataW.trod enc P W base spare held n f3.type [v3] = some y3 := by
  obtain ⟨cs, rfl, hsz⟩ := okWide_struct hs hv
  obtain ⟨c0, c1, c2, c3, rfl⟩ := array4p (hsz.trans hC)
  obtain ⟨fuel, hf⟩ := h
  obtain ⟨xs, n, _, _, hl, hlen, hf⟩ := DataW.trod_struct hs hf
  obtain ⟨o0, k0⟩ := hone_of hone 0 f0 rfl
  obtain ⟨o1, k1⟩ := hone_of hone 1 f1 rfl
  obtain ⟨o2, k2⟩ := hone_of hone 2 f2 rfl
  obtain ⟨o3, k3⟩ := hone_of hone 3 f3 rfl
  match xs, hlen with
  | [y0, y1, y2, y3], _ =>
    exact ⟨c0, c1, c2, c3, y0, y1, y2, y3, n, rfl, by simpa [Value.cells, o0, k0] using hf 0 f0 rfl, by simpa [Value.cells, o1, k1] using hf 1 f1 rfl, by simpa [Value.cells, o2, k2] using hf 2 f2 rfl, by simpa [Value.cells, o3, k3] using hf 3 f3 rfl⟩
def Int64SS (xss : List (List Int)) : Prop := ∀ xs ∈ xss, I64s xs
def Pr64 (p : Prob) : Prop := (-9223372036854775808 ≤ p.labels ∧ p.labels ≤ 9223372036854775807) ∧ (-9223372036854775808 ≤ p.degree ∧ p.degree ≤ 9223372036854775807) ∧ Int64SS p.nodes ∧ Int64SS p.edges
set_option maxRecDepth 100000 in
theorem open_prob {r : Reach} {b0 : Nat} {v : Value} {d : DataW H} {p : List MemPlace}
    (hv : Value.okWide Tryz.prog W r b0 70 v) (h : DataW.Trod enc Tryz.prog W 0 (fun _ => true) true 70 v d p) : ∃ a b x, v = .agg #[.int .i64 x.labels, .int .i64 x.degree, a, b] ∧ PrIn W a b x ∧ Pr64 x := by
  obtain ⟨v0, v1, v2, v3, y0, y1, y2, y3, m, rfl, h0, h1, h2, h3⟩ := open_agg4p Tryz.underlying70 (by kernel_rfl) (by kernel_rfl) hv h
  obtain ⟨s0, e0, _, b0⟩ := DataW.trod_int Tryz.underlying3 h0
  obtain ⟨s1, e1, _, b1⟩ := DataW.trod_int Tryz.underlying3 h1
  simp at e0 e1
  subst e0 e1
  obtain ⟨s2, e2, b2⟩ := open_ss2 h2
  obtain ⟨s3, e3, b3⟩ := open_ss2 h3
  exact ⟨v2, v3, ⟨s0, s1, s2, s3⟩, rfl, ⟨e2, e3⟩, wf_i64 b0, wf_i64 b1, b2, b3⟩
end
end Go.Proofs.YtomnaabadohecaaGreat
namespace Go.Proofs.YtomnaabadohecaaGreat
open Go.RowKit
/-! marks (written by tools/markgen.py) -/
def cntPr (x : Prob) : Nat := (szR x.nodes : Nat) + (szR x.edges : Nat)
def mkPr (k : Nat) (x : Prob) : Prob := { labels := x.labels, degree := x.degree, nodes := mkII (k) x.nodes, edges := mkII (k + (szR x.nodes : Nat)) x.edges }
def OwnPr (w : World) (base : Nat) (v1 v2 : Value) (x : Prob) (S : List Nat) : Prop := ∃ S1 S2 : List Nat, OwnII w base v1 x.nodes S1 ∧ OwnII w base v2 x.edges S2 ∧ S = S1 ++ S2 ∧ S.Nodup
theorem OwnPr.read {w : World} {base : Nat} {v1 v2 : Value} {x : Prob} {S : List Nat} (h : OwnPr w base v1 v2 x S) : PrIn w v1 v2 x := by
  obtain ⟨S1, S2, h1, h2, _, _⟩ := h
  exact ⟨h1.read, h2.read⟩
theorem OwnPr.range {w : World} {base : Nat} {v1 v2 : Value} {x : Prob} {S : List Nat} (h : OwnPr w base v1 v2 x S) : ∀ k ∈ S, base ≤ k ∧ k < w.heap.size := by
  obtain ⟨S1, S2, h1, h2, rfl, _⟩ := h
  intro k hk
  simp only [List.mem_append] at hk
  rcases hk with hk | hk
  · exact lawII.range h1 k hk
  · exact lawII.range h2 k hk
theorem OwnPr.stable {w' : World} {w : World} {base : Nat} {v1 v2 : Value} {x : Prob} {S : List Nat} (h : OwnPr w base v1 v2 x S) (hs : ∀ k ∈ S, w'.heap[k]? = w.heap[k]?) : OwnPr w' base v1 v2 x S := by
  obtain ⟨S1, S2, h1, h2, h8, h9⟩ := h
  refine ⟨S1, S2, lawII.stable h1 fun k hk => hs k (by rw [h8]; simp [hk]), lawII.stable h2 fun k hk => hs k (by rw [h8]; simp [hk]), h8, h9⟩
theorem OwnPr.keep {w' : World} {w : World} {base : Nat} {v1 v2 : Value} {x : Prob} {S : List Nat} (h : OwnPr w base v1 v2 x S) (hb : Below w.heap.size w w') : OwnPr w' base v1 v2 x S := h.stable fun k hk => hb.block k (h.range k hk).2
theorem OwnPr.mono {base' : Nat} {w : World} {base : Nat} {v1 v2 : Value} {x : Prob} {S : List Nat} (h : OwnPr w base v1 v2 x S) (hb : base' ≤ base) : OwnPr w base' v1 v2 x S := by
  obtain ⟨S1, S2, h1, h2, h8, h9⟩ := h
  exact ⟨S1, S2, lawII.mono h1 hb, lawII.mono h2 hb, h8, h9⟩
set_option maxHeartbeats 8000000 in
theorem markProblem_any (v1 v2 : Value) (x : Prob) (k : Nat) (w : World) (base : Nat) (S : List Nat) (h : OwnPr w base v1 v2 x S) (hl : k + cntPr x ≤ 4611686018427387904) :
    Calls Tryz.prog 46 #[.agg #[.int .i64 x.labels, .int .i64 x.degree, v1, v2], .int .i64 k] w fun e w' => e = .returned (.int .i64 ((k + cntPr x : Nat) : Int)) ∧ OwnPr w' base v1 v2 (mkPr k x) S ∧ Only S w w' := by
  have hr := h.range
  obtain ⟨S1, S2, h1, h2, h8, h9⟩ := h
  unfold cntPr at hl ⊢
  have hnd := h9
  rw [h8] at hnd
  have d1_2 : ∀ j ∈ S1, j ∉ S2 := fun j a b => (List.nodup_append.1 hnd).2.2 j a j b rfl
  have b1 := fun j hj => (lawII.range h1 j hj).2
  have b2 := fun j hj => (lawII.range h2 j hj).2
  have hb0 : Below w.heap.size w (w.alloc (.cells #[.int .i64 x.labels, .int .i64 x.degree, v1, v2] 74)) := (Below.refl _ _).alloc (Nat.le_refl _) _
  have H1 := Lib.hid (lawII.keep h1 hb0)
  have B1 := Lib.hid b1
  have H2 := Lib.hid (lawII.keep h2 hb0)
  have B2 := Lib.hid b2
  obtain ⟨A1, n1, z1, rfl⟩ := lawII.one h1
  obtain ⟨A2, n2, z2, rfl⟩ := lawII.one h2
  have D1_2 := Lib.hid d1_2
  have H8 := Lib.hid h8
  have H9 := Lib.hid h9
  have Hb0 := Lib.hid hb0
  clear h8 h9 hnd hr hb0 h1 b1 h2 b2 d1_2
  go_enter Tryz.func46, Tryz.ntmps46
  go_wp2_with fail
  refine (markIntSS_any _ x.nodes (k) _ base S1 H1.out (by omega)).mono ?_
  rintro e w1 ⟨rfl, o, t⟩
  have c1 : w1.cell? ⟨w.heap.size, 3, none⟩ = some (.slice A2 n2 z2) := t.cell (fun hh => by have := B1.out _ hh; simp at this) (by simp)
  have H1' := Lib.hid o
  clear H1 o
  have H1 := H1'
  clear H1'
  have H2' := Lib.hid (lawII.only H2.out t (fun j a b => D1_2.out j b a))
  clear H2
  have H2 := H2'
  clear H2'
  have T1 := Lib.hid t
  clear t
  go_wp2_with fail
  refine (markIntSS_any _ x.edges (k + (szR x.nodes : Nat)) _ base S2 H2.out (by omega)).mono ?_
  rintro e w2 ⟨rfl, o, t⟩
  clear c1
  have H2' := Lib.hid o
  clear H2 o
  have H2 := H2'
  clear H2'
  have H1' := Lib.hid (lawII.only H1.out t D1_2.out)
  clear H1
  have H1 := H1'
  clear H1'
  have T2 := Lib.hid t
  clear t
  go_wp2_with fail
  go_ret
  refine ⟨ret_int (by omega), ⟨S1, S2, H1.out, H2.out, H8.out, H9.out⟩, ?_⟩
  have m1 : ∀ j ∈ S1, j ∈ S := fun j hj => by rw [H8.out]; simp [hj]
  have m2 : ∀ j ∈ S2, j ∈ S := fun j hj => by rw [H8.out]; simp [hj]
  exact (((Only.of_below Hb0.out).trans (T1.out.mono m1)).trans (T2.out.mono m2))
end Go.Proofs.YtomnaabadohecaaGreat
namespace Go.Proofs.YtomnaabadohecaaGreat
open Go.RowKit
set_option maxHeartbeats 8000000 in
theorem toProblem_own (a b : Value) (x : Prob) (w : World) (h : PrIn w a b x) (hl : szPr x ≤ 1048576) : Calls Tryz.prog 38 #[.agg #[.int .i64 x.labels, .int .i64 x.degree, a, b]] w fun e w' => ∃ a b S, e = .returned (.agg #[.int .i64 x.labels, .int .i64 x.degree, a, b]) ∧ OwnPr w' w.heap.size a b x S ∧ Below w.heap.size w w' := by
  unfold szPr at hl
  have hl1 : szII x.nodes ≤ 1048576 := by omega
  have hl2 : szII x.edges ≤ 1048576 := by omega
  obtain ⟨A1, z1, hv1, _⟩ := id h.1
  obtain ⟨A2, z2, hv2, _⟩ := id h.2
  subst hv1 hv2
  obtain ⟨wa, hwa⟩ : ∃ wa, wa = ((w.alloc (.cells #[.int .i64 x.labels, .int .i64 x.degree, .slice A1 x.nodes.length z1, .slice A2 x.edges.length z2] 70)).alloc (.cells #[.int .i64 0, .int .i64 0, .slice none 0 0, .slice none 0 0] 74)).alloc (.cells #[.int .i64 x.labels, .int .i64 x.degree, .slice none 0 0, .slice none 0 0] 74) := ⟨_, rfl⟩
  have hba : Below w.heap.size w wa := by rw [hwa]; exact below3 _ _ _ _
  have hsa : wa.heap.size = w.heap.size + 3 := by rw [hwa]; simp
  have b1 : BoxA wa w.heap.size #[.int .i64 x.labels, .int .i64 x.degree, .slice A1 x.nodes.length z1, .slice A2 x.edges.length z2] := by rw [hwa]; exact ((BoxA.new _ _ _).alloc _).alloc _
  have b2 : BoxA wa (w.heap.size + 1) #[.int .i64 0, .int .i64 0, .slice none 0 0, .slice none 0 0] := by
    rw [hwa]
    have := (BoxA.new (w.alloc (.cells #[.int .i64 x.labels, .int .i64 x.degree, .slice A1 x.nodes.length z1, .slice A2 x.edges.length z2] 70)) #[.int .i64 0, .int .i64 0, .slice none 0 0, .slice none 0 0] 74).alloc (.cells #[.int .i64 x.labels, .int .i64 x.degree, .slice none 0 0, .slice none 0 0] 74)
    simpa using this
  have b3 : BoxA wa (w.heap.size + 2) #[.int .i64 x.labels, .int .i64 x.degree, .slice none 0 0, .slice none 0 0] := by
    rw [hwa]
    have := BoxA.new ((w.alloc (.cells #[.int .i64 x.labels, .int .i64 x.degree, .slice A1 x.nodes.length z1, .slice A2 x.edges.length z2] 70)).alloc (.cells #[.int .i64 0, .int .i64 0, .slice none 0 0, .slice none 0 0] 74)) #[.int .i64 x.labels, .int .i64 x.degree, .slice none 0 0, .slice none 0 0] 74
    simpa using this
  have H0 := Lib.hid h
  have Ha := Lib.hid hwa
  have X0 := Lib.hid b1
  have Y0 := Lib.hid b2
  have Z0 := Lib.hid b3
  have HB0 := Lib.hid hba
  clear h hba hwa b1 b2 b3 hl
  go_enter Tryz.func38, Tryz.ntmps38
  go_wp2_with fail
  rw [← Ha.out]
  refine (toIntSS_any _ x.nodes _ (by exact (H0.out.keep HB0.out).1) hl1).mono ?_
  rintro e w1 ⟨g1, S1, rfl, ko1, hb1⟩
  have hz1 := hb1.size
  have hsz1 : wa.heap.size ≤ wa.heap.size := Nat.le_refl _
  obtain ⟨W1, hW1⟩ : ∃ W1, W1 = w1.setCell ⟨w.heap.size + 2, 2, none⟩ (.slice (some ⟨g1, 0, none⟩) x.nodes.length x.nodes.length) := ⟨_, rfl⟩
  obtain ⟨q1, f1⟩ := (Z0.out.below hb1 (by omega)).cell 2 _ rfl
  have b1 : BoxA W1 w.heap.size #[.int .i64 x.labels, .int .i64 x.degree, .slice A1 x.nodes.length z1, .slice A2 x.edges.length z2] := by rw [hW1]; exact (X0.out.below hb1 (by omega)).set (by simp)
  have b2 : BoxA W1 (w.heap.size + 1) #[.int .i64 0, .int .i64 0, .slice none 0 0, .slice none 0 0] := by rw [hW1]; exact (Y0.out.below hb1 (by omega)).set (by simp)
  have b3 : BoxA W1 (w.heap.size + 2) #[.int .i64 x.labels, .int .i64 x.degree, .slice (some ⟨g1, 0, none⟩) x.nodes.length x.nodes.length, .slice none 0 0] := by rw [hW1]; obtain ⟨r, hr⟩ := Z0.out.below hb1 (by omega); exact ⟨r, by simp [World.setCell, Array.getElem?_modify, hr]⟩
  have hB1 : Below w.heap.size w W1 := by rw [hW1]; exact (HB0.out.trans (hb1.mono (by omega))).setCell (by simp) _
  have hsW1 : wa.heap.size ≤ W1.heap.size := by rw [hW1, sizeSet]; omega
  have k1 : OwnII W1 wa.heap.size (.slice (some ⟨g1, 0, none⟩) x.nodes.length x.nodes.length) x.nodes S1 := by rw [hW1]; exact (RowLaw.put lawII ko1 (p := ⟨w.heap.size + 2, 2, none⟩) (by show w.heap.size + 2 < _; omega) _)
  have U1 : Hid (∀ k ∈ S1, k < W1.heap.size) := fun k hk => (lawII.range k1 k hk).2
  have K1_1 := Lib.hid k1
  clear k1
  have hle1 : wa.heap.size ≤ W1.heap.size := by rw [hW1, sizeSet]; exact hb1.size
  have HB1 := Lib.hid hB1
  have HW1 := Lib.hid hW1
  have X1 := Lib.hid b1
  have p1 := (b1.cell 3 _ rfl).1
  rw [hW1] at p1
  have Y1 := Lib.hid b2
  have Z1 := Lib.hid b3
  clear b1
  clear b2 b3 hB1 hb1 ko1
  clear hW1
  go_wp2_with fail
  clear p1 q1 f1
  rw [← HW1.out]
  refine (toIntSS_any _ x.edges _ (by exact (H0.out.keep HB1.out).2) hl2).mono ?_
  rintro e w2 ⟨g2, S2, rfl, ko2, hb2⟩
  have hz2 := hb2.size
  have hsz2 : wa.heap.size ≤ W1.heap.size := hsW1
  obtain ⟨W2, hW2⟩ : ∃ W2, W2 = w2.setCell ⟨w.heap.size + 2, 3, none⟩ (.slice (some ⟨g2, 0, none⟩) x.edges.length x.edges.length) := ⟨_, rfl⟩
  obtain ⟨q2, f2⟩ := (Z1.out.below hb2 (by omega)).cell 3 _ rfl
  have b2 : BoxA W2 (w.heap.size + 1) #[.int .i64 0, .int .i64 0, .slice none 0 0, .slice none 0 0] := by rw [hW2]; exact (Y1.out.below hb2 (by omega)).set (by simp)
  have b3 : BoxA W2 (w.heap.size + 2) #[.int .i64 x.labels, .int .i64 x.degree, .slice (some ⟨g1, 0, none⟩) x.nodes.length x.nodes.length, .slice (some ⟨g2, 0, none⟩) x.edges.length x.edges.length] := by rw [hW2]; obtain ⟨r, hr⟩ := Z1.out.below hb2 (by omega); exact ⟨r, by simp [World.setCell, Array.getElem?_modify, hr]⟩
  have hB2 : Below w.heap.size w W2 := by rw [hW2]; exact (HB1.out.trans (hb2.mono (by omega))).setCell (by simp) _
  have hsW2 : wa.heap.size ≤ W2.heap.size := by rw [hW2, sizeSet]; omega
  have k1 : OwnII W2 wa.heap.size (.slice (some ⟨g1, 0, none⟩) x.nodes.length x.nodes.length) x.nodes S1 := by rw [hW2]; exact (RowLaw.put lawII (lawII.keep K1_1.out hb2) (p := ⟨w.heap.size + 2, 3, none⟩) (by show w.heap.size + 2 < _; omega) _)
  have K1_2 := Lib.hid k1
  have k2 : OwnII W2 W1.heap.size (.slice (some ⟨g2, 0, none⟩) x.edges.length x.edges.length) x.edges S2 := by rw [hW2]; exact (RowLaw.put lawII ko2 (p := ⟨w.heap.size + 2, 3, none⟩) (by show w.heap.size + 2 < _; omega) _)
  have U2 : Hid (∀ k ∈ S2, k < W2.heap.size) := fun k hk => (lawII.range k2 k hk).2
  have K2_2 := Lib.hid k2
  clear k1 k2
  have hle2 : W1.heap.size ≤ W2.heap.size := by rw [hW2, sizeSet]; exact hb2.size
  have HB2 := Lib.hid hB2
  have HW2 := Lib.hid hW2
  have Y2 := Lib.hid b2
  have Z2 := Lib.hid b3
  have hfin : Hid (∀ y0 y1 y2 y3, OwnPr ((((W2.setCell ⟨w.heap.size + 1, 0, none⟩ y0).setCell ⟨w.heap.size + 1, 1, none⟩ y1).setCell ⟨w.heap.size + 1, 2, none⟩ y2).setCell ⟨w.heap.size + 1, 3, none⟩ y3) w.heap.size (.slice (some ⟨g1, 0, none⟩) x.nodes.length x.nodes.length) (.slice (some ⟨g2, 0, none⟩) x.edges.length x.edges.length) x (S1 ++ S2) ∧ Below w.heap.size w ((((W2.setCell ⟨w.heap.size + 1, 0, none⟩ y0).setCell ⟨w.heap.size + 1, 1, none⟩ y1).setCell ⟨w.heap.size + 1, 2, none⟩ y2).setCell ⟨w.heap.size + 1, 3, none⟩ y3)) := fun y0 y1 y2 y3 => by
    have r1 := (RowLaw.put lawII (RowLaw.put lawII (RowLaw.put lawII (RowLaw.put lawII K1_2.out (p := ⟨w.heap.size + 1, 0, none⟩) (by show w.heap.size + 1 < _; omega) y0) (p := ⟨w.heap.size + 1, 1, none⟩) (by show w.heap.size + 1 < _; omega) y1) (p := ⟨w.heap.size + 1, 2, none⟩) (by show w.heap.size + 1 < _; omega) y2) (p := ⟨w.heap.size + 1, 3, none⟩) (by show w.heap.size + 1 < _; omega) y3)
    have r2 := (RowLaw.put lawII (RowLaw.put lawII (RowLaw.put lawII (RowLaw.put lawII K2_2.out (p := ⟨w.heap.size + 1, 0, none⟩) (by show w.heap.size + 1 < _; omega) y0) (p := ⟨w.heap.size + 1, 1, none⟩) (by show w.heap.size + 1 < _; omega) y1) (p := ⟨w.heap.size + 1, 2, none⟩) (by show w.heap.size + 1 < _; omega) y2) (p := ⟨w.heap.size + 1, 3, none⟩) (by show w.heap.size + 1 < _; omega) y3)
    have hnd : (S1 ++ S2).Nodup := List.nodup_append.2 ⟨lawII.nodup r1, lawII.nodup r2, fun a ha b hb e => by have h1 := U1.out a ha; have h2 := (lawII.range r2 b hb).1; omega⟩
    exact ⟨⟨S1, S2, lawII.mono r1 (by omega), lawII.mono r2 (by omega), rfl, hnd⟩, ((((hB2.setCell (p := ⟨w.heap.size + 1, 0, none⟩) (by show w.heap.size ≤ w.heap.size + 1; omega) _).setCell (p := ⟨w.heap.size + 1, 1, none⟩) (by show w.heap.size ≤ w.heap.size + 1; omega) _).setCell (p := ⟨w.heap.size + 1, 2, none⟩) (by show w.heap.size ≤ w.heap.size + 1; omega) _).setCell (p := ⟨w.heap.size + 1, 3, none⟩) (by show w.heap.size ≤ w.heap.size + 1; omega) _)⟩
  rw [hW2] at hfin
  obtain ⟨t0, u0⟩ := b3.cell 0 _ rfl
  obtain ⟨m0, n0⟩ := b2.cell 0 _ rfl
  obtain ⟨t1, u1⟩ := b3.cell 1 _ rfl
  obtain ⟨m1, n1⟩ := b2.cell 1 _ rfl
  obtain ⟨t2, u2⟩ := b3.cell 2 _ rfl
  obtain ⟨m2, n2⟩ := b2.cell 2 _ rfl
  obtain ⟨t3, u3⟩ := b3.cell 3 _ rfl
  obtain ⟨m3, n3⟩ := b2.cell 3 _ rfl
  rw [hW2] at t0 m0 n0 t1 m1 n1 t2 m2 n2 t3 m3 n3
  clear u0 u1 u2 u3
  clear b2 b3 hB2 hb2 ko2 hW2
  go_wp2
  refine bodyPost_ret (v := .agg #[.int .i64 x.labels, .int .i64 x.degree, .slice (some ⟨g1, 0, none⟩) x.nodes.length x.nodes.length, .slice (some ⟨g2, 0, none⟩) x.edges.length x.edges.length]) (by simp [results, Tryz.results38, go_sem, *]) rfl ?_
  exact ⟨_, _, _, rfl, (hfin.out _ _ _ _).1, (hfin.out _ _ _ _).2⟩
end Go.Proofs.YtomnaabadohecaaGreat
namespace Go.Proofs.YtomnaabadohecaaGreat
open Go.RowKit
end Go.Proofs.YtomnaabadohecaaGreat
namespace Go.Proofs.YtomnaabadohecaaGreat
open Go.RowKit
end Go.Proofs.YtomnaabadohecaaGreat
namespace Go.Proofs.YtomnaabadohecaaGreat
open Go.RowKit Go.Shelf
attribute [local go_sem] Oper.semAt_some
/-- what a round keeps: the blocks from lo to hi -/
def KeepMid (lo hi : Nat) (W W' : World) : Prop := W.heap.size ≤ W'.heap.size ∧ ∀ k, lo ≤ k → k < hi → W'.heap[k]? = W.heap[k]?
theorem KeepMid.t {lo hi : Nat} {A B C : World} (h : KeepMid lo hi A B) (k : KeepMid lo hi B C) : KeepMid lo hi A C := ⟨Nat.le_trans h.1 k.1, fun i h1 h2 => (k.2 i h1 h2).trans (h.2 i h1 h2)⟩
theorem KeepMid.refl (lo hi : Nat) (W : World) : KeepMid lo hi W W := ⟨Nat.le_refl _, fun _ _ _ => rfl⟩
theorem KeepMid.b {lo hi : Nat} {w : World} (hh : hi ≤ w.heap.size) (W : World) (l : Nat) (o o' : Obj) (hl : w.heap.size ≤ l) (_ : W.heap[l]? = some o) (_ : o.isCells = false) (_ : o.isWalk = false) : KeepMid lo hi W (W.putObj l o') :=
  ⟨(grownBy_putObj' W l o').size, fun k _ hk => by
    rcases Nat.lt_or_ge k W.heap.size with h | h
    · exact (grownBy_putObj' W l o').block k h (fun e => by cases e; omega)
    · exact World.putObj_heap_other (fun e => by omega)⟩
theorem KeepMid.cell {lo hi : Nat} {W W' : World} (h : KeepMid lo hi W W') {a : Addr} {u : Value} (h1 : lo ≤ a.block) (h2 : a.block < hi) (hc : W.cell? a = some u) : W'.cell? a = some u :=
  (World.cell?_of_block (h.2 a.block h1 h2)).trans hc
/-- a range and where it stands -/
abbrev Rng := { x : Nat × Int // 1 ≤ x.2 ∧ x.2 ≤ 100 }
end Go.Proofs.YtomnaabadohecaaGreat
namespace Go.Proofs.YtomnaabadohecaaGreat
open Go.RowKit Go.Shelf
attribute [local go_sem] Oper.semAt_some
def vals (pre : List Rng) : List Int := pre.map fun x => x.1.2
theorem own_putObj {W : World} {base : Nat} {v : Value} {xs : List Int} (h : Own W base v xs) {D : Nat} {o : Obj} (o' : Obj) (hD : W.heap[D]? = some o) (ho : o.isCells = false) : Own (W.putObj D o') base v xs := ownsRow_putObj h o' hD ho
/-- append(v, x), x in the new block a -/
theorem app1 {w : World} {base : Nat} {v : Value} {xs : List Int} (h : Own w base v xs) (x : Int) (ty : TypeId) (b : Nat) (hc : w.cell? ⟨b, 0, none⟩ = some (.int .i64 x)) (hl : xs.length + 1 ≤ 17592186044416) (hb : base ≤ w.heap.size) :
    ∃ g c w', (Builtin.append_ #[24, 24] ty #[v, .slice (some ⟨b, 0, none⟩) 1 1]).run Tryz.prog w = .ok (.slice (some ⟨g, 0, none⟩) (xs.length + 1) c) w' ∧ Own w' base (.slice (some ⟨g, 0, none⟩) (xs.length + 1) c) (xs ++ [x]) ∧ w.grownBy w' v.ownBlock ∧ (some g = v.ownBlock ∨ g = w.heap.size) := by
  obtain ⟨i0, hi, hz0, hz1, hz2⟩ := info_parts int_info
  obtain ⟨v', w', hrun, h2, h3, _, h5⟩ := run_append_own_at (P := Tryz.prog) w base 24 ty 3 i0 (.int .i64 0) 1 8 Tryz.underlying24 hi hz0 hz1 hz2 rfl (by decide) v xs.length (xs.map (Value.int .i64)) h ⟨b, 0, none⟩ 1 1 [.int .i64 x] rfl
    (by intro j u hj; match j, hj with | 0, hj => (simp at hj; subst hj; simpa [Addr.add] using hc) | j + 1, hj => simp at hj) (by simp [Value.oneCell']) (by unfold maxLen; omega) (by omega) hb
  obtain ⟨g, c, rfl⟩ := ownsRow_succ h2
  refine ⟨g, c, w', hrun, ?_, h3, ?_⟩
  · unfold Own
    simpa using h2
  · rcases h5 with h5 | h5
    · exact .inl (by simpa [Value.ownBlock] using h5)
    · exact .inr (by simpa [Value.ownBlock] using h5)
/-- what append answers, veiled -/
def AppRes (P : Program) (ty : TypeId) (v s : Value) (w : World) : Result Next := ((Builtin.append_ #[24, 24] ty #[v, s]).run P w).andThen fun v' w' => .ok (.value v') w'
theorem stepIn_res {F : Fence} {nF : Nat} {Y : Nat → Option Bool} {o : Oper} {a : Act} {w : World} {K : Act → World → Prop} {Q : Exit → Act → World → Prop} {E : Prop} (s x : Operand)
    (hgd : o.guard = none) (ho : o.op = .call { callee := .builtin .append, args := #[s, x], argTypes := #[24, 24] }) (v' : Value) (w' : World)
    (hr : AppRes Tryz.prog o.type (a.eval s) (a.eval x) w = .ok (.value v') w') (h : K (a.put o.dst v') w') :
    if Region.wanted o Y = true then Oper.wpIn F nF Tryz.prog o a w K Q else E := by
  rw [if_pos (by simp [Region.wanted, hgd])]
  unfold Oper.wpIn
  refine ⟨by simp [Oper.about, ho, resolve, Target.leads, Sem.run_pure], ?_⟩
  rw [Oper.semAt_plain F _ _ (by rw [ho]; intro c hc'; cases hc')]
  unfold AppRes at hr
  simp only [execOp, ho, resolve, invoke, builtin, Sem.run_bind, Sem.run_pure, Result.andThen_ok, List.map_toArray, List.map_cons, List.map_nil]
  generalize (Builtin.append_ #[24, 24] o.type #[a.eval s, a.eval x]).run Tryz.prog w = R at hr ⊢
  cases R with
  | ok v1 w1 => simp [Result.andThen] at hr; obtain ⟨rfl, rfl⟩ := hr; exact h
  | halt h1 w1 => simp [Result.andThen] at hr
theorem wpListIn_res {F : Fence} {nF : Nat} {ops : Array Oper} {rest : List Oper} {o : Oper} {a : Act} {w : World} {Q : Exit → Act → World → Prop} (s x : Operand)
    (hgd : o.guard = none) (ho : o.op = .call { callee := .builtin .append, args := #[s, x], argTypes := #[24, 24] }) (v' : Value) (w' : World)
    (hr : AppRes Tryz.prog o.type (a.eval s) (a.eval x) w = .ok (.value v') w') (h : wpListIn F nF Tryz.prog ops Q rest (a.put o.dst v') w') : wpListIn F nF Tryz.prog ops Q (o :: rest) a w := by
  refine wpListIn_plain hgd fun K hK => ?_
  have := stepIn_res (F := F) (nF := nF) (Y := fun _ => none) (o := o) (a := a) (w := w) (K := K) (Q := Q) (E := False) s x hgd ho v' w' hr (hK _ _ h)
  rwa [if_pos (by simp [Region.wanted, hgd])] at this
end Go.Proofs.YtomnaabadohecaaGreat
namespace Go.Proofs.YtomnaabadohecaaGreat
open Go.RowKit
end Go.Proofs.YtomnaabadohecaaGreat
