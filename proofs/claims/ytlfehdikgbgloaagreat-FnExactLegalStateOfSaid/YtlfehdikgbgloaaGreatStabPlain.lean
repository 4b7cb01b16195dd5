import Derived.Test.YtlfehdikgbgloaaGreatCounts3
import Derived.Test.YtlfehdikgbgloaaGreatSrch1
namespace Go.Proofs.YtlfehdikgbgloaaGreat
open Go.RowKit
-- the least natural number that is not in a list
def leastGo (xs : List Int) : Nat → Nat → Nat
  | 0, c => c
  | f + 1, c => if hasB xs c then leastGo xs f (c + 1) else c
def leastB (xs : List Int) : Int := (leastGo xs (xs.length + 1) 0 : Nat)
theorem pigeon : ∀ (c : Nat) (xs : List Int), (∀ k, k < c → ((k : Nat) : Int) ∈ xs) → c ≤ xs.length
  | 0, _, _ => Nat.zero_le _
  | c + 1, xs, h => by
    have hm := h c (Nat.lt_succ_self c)
    have := pigeon c (xs.erase (c : Int)) (fun k hk => (List.mem_erase_of_ne (by omega)).2 (h k (by omega)))
    rw [List.length_erase_of_mem hm] at this
    have : 0 < xs.length := List.length_pos_of_mem hm
    omega
theorem leastGo_eq {xs : List Int} {c : Nat} (h1 : ∀ k, k < c → hasB xs (k : Nat) = true) (h2 : hasB xs (c : Nat) = false) : ∀ (f j : Nat), j ≤ c → c - j < f → leastGo xs f j = c
  | 0, _, _, h => absurd h (Nat.not_lt_zero _)
  | f + 1, j, hj, hf => by
    unfold leastGo
    by_cases e : j = c
    · subst e; rw [h2]; rfl
    · rw [h1 j (by omega), if_pos rfl]
      exact leastGo_eq h1 h2 f (j + 1) (by omega) (by omega)
theorem pigeonB {xs : List Int} {c : Nat} (h1 : ∀ k, k < c → hasB xs (k : Nat) = true) : c ≤ xs.length :=
  pigeon c xs (fun k hk => by have := h1 k hk; unfold hasB at this; simpa using this)
theorem leastB_eq {xs : List Int} {c : Nat} (h1 : ∀ k, k < c → hasB xs (k : Nat) = true) (h2 : hasB xs (c : Nat) = false) : leastB xs = c := by
  have := pigeonB h1
  unfold leastB
  rw [leastGo_eq h1 h2 _ 0 (Nat.zero_le _) (by omega)]
theorem least_ex {P : Nat → Bool} : ∀ (n : Nat), P n = false → ∃ c, c ≤ n ∧ P c = false ∧ ∀ k, k < c → P k = true
  | 0, h => ⟨0, Nat.le_refl _, h, fun k hk => absurd hk (Nat.not_lt_zero _)⟩
  | n + 1, h => by
    by_cases hx : ∃ k, k ≤ n ∧ P k = false
    · obtain ⟨k, hk, hp⟩ := hx
      obtain ⟨c, hc, h1, h2⟩ := least_ex k hp
      exact ⟨c, by omega, h1, h2⟩
    · refine ⟨n + 1, Nat.le_refl _, h, fun k hk => ?_⟩
      cases hp : P k
      · exact absurd ⟨k, by omega, hp⟩ hx
      · rfl
theorem leastB_bd (xs : List Int) : 0 ≤ leastB xs ∧ leastB xs ≤ xs.length := by
  have hex : ∃ c : Nat, hasB xs (c : Nat) = false := by
    apply Classical.byContradiction
    intro h
    have := pigeonB (xs := xs) (c := xs.length + 1) (fun k _ => by
      cases hp : hasB xs (k : Nat)
      · exact absurd ⟨k, hp⟩ h
      · rfl)
    omega
  obtain ⟨m, hm⟩ := hex
  obtain ⟨c, -, h1, h2⟩ := least_ex (P := fun k => hasB xs (k : Nat)) m hm
  rw [leastB_eq h2 h1]
  have := pigeonB h2
  omega
-- the tree
def least1 (a b : Int) : Int := if a < b then a else b
def minB : List Int → Int
  | [] => 0
  | x :: xs => xs.foldl min x
def treeStep (a x : Int) : Int := least1 a (x + 1)
theorem tree_step : ∀ (xs : List Int) (k a : Int), xs.foldl treeStep (min k (a + 1)) = min k (xs.foldl min a + 1)
  | [], _, _ => rfl
  | y :: ys, k, a => by
    have : treeStep (min k (a + 1)) y = min k (min a y + 1) := by unfold treeStep least1; simp only [Int.min_def]; split <;> split <;> split <;> (try split) <;> omega
    rw [List.foldl_cons, List.foldl_cons, this]
    exact tree_step ys k (min a y)
theorem tree_min {xs : List Int} (h : xs ≠ []) (k : Int) : xs.foldl treeStep k = min k (minB xs + 1) := by
  match xs, h with
  | x :: ys, _ =>
    have : treeStep k x = min k (x + 1) := by unfold treeStep least1; rw [Int.min_def]; split <;> split <;> omega
    rw [List.foldl_cons, this]
    exact tree_step ys k x
theorem treeStep_bd : ∀ (xs : List Int) (k a : Int), 0 ≤ a → a ≤ k → (∀ x ∈ xs, 0 ≤ x) → 0 ≤ xs.foldl treeStep a ∧ xs.foldl treeStep a ≤ k
  | [], _, _, h0, h1, _ => ⟨h0, h1⟩
  | y :: ys, k, a, h0, h1, h => by
    have hy := h y (by simp)
    have : 0 ≤ treeStep a y ∧ treeStep a y ≤ k := by unfold treeStep least1; split <;> omega
    exact treeStep_bd ys k _ this.1 this.2 (fun x hx => h x (List.mem_cons_of_mem _ hx))
def treeB (n : Net) (ls : List Int) (v : Nat) : Int := if n.inputs.getD v 0 = 1 then 0 else (nearB ls (rowOf n v)).foldl treeStep (n.ends.length : Int)
-- the matching
def wantB (ls : List Int) (e : Int × Int) : Bool := ls.getD e.1.toNat 0 == e.2 + 1
def freeB (ls : List Int) (e : Int × Int) : Bool := ls.getD e.1.toNat 0 == 0
def eidx (p : Int × Int → Bool) (es : List (Int × Int)) : Int := match es.findIdx? p with | some i => (i : Int) | none => -1
theorem eidx_bd (p : Int × Int → Bool) (es : List (Int × Int)) : -1 ≤ eidx p es ∧ eidx p es < es.length := by
  unfold eidx
  cases h : es.findIdx? p with
  | none => show -1 ≤ (-1 : Int) ∧ (-1 : Int) < _; omega
  | some i =>
    rw [List.findIdx?_eq_some_iff_getElem] at h
    obtain ⟨hi, -⟩ := h
    show -1 ≤ (i : Int) ∧ (i : Int) < _
    omega
def stayB (ls : List Int) (e : Int × Int) : Bool := freeB ls e || wantB ls e
def matchB (ls : List Int) (es : List (Int × Int)) (s : Int) : Int :=
  if 0 < s then (if stayB ls (es.getD (s - 1).toNat (0, 0)) = true then s else 0)
  else if 0 ≤ eidx (wantB ls) es then eidx (wantB ls) es + 1 else eidx (freeB ls) es + 1
-- the token
def beforeB (n : Net) (ls : List Int) (v : Nat) : Int := ls.getD ((rowOf n v).getD 1 (0, 0)).1.toNat 0
def tokenB (n : Net) (ls : List Int) (v : Nat) : Int :=
  if n.inputs.getD v 0 = 1 then (if ls.getD v 0 = beforeB n ls v then (ls.getD v 0 + 1) % ((n.ends.length : Int) + 1) else ls.getD v 0) else beforeB n ls v
def nextB (n : Net) (r : Int) (ls : List Int) (v : Nat) : Int :=
  if r = 1 then treeB n ls v
  else if r = 2 then (if hasB (nearB ls (rowOf n v)) (ls.getD v 0) = true then leastB (nearB ls (rowOf n v)) else ls.getD v 0)
  else if r = 3 then (if hasB (nearB ls (rowOf n v)) 1 = true then 0 else 1)
  else if r = 4 then matchB ls (rowOf n v) (ls.getD v 0)
  else tokenB n ls v
def stAt (n : Net) (r : Int) (ls : List Int) (v : Nat) : Bool := inB 0 (countB n r v - 1) (ls.getD v 0)
def stAll (n : Net) (r : Int) (ls : List Int) : Bool := (List.range n.ends.length).all (stAt n r ls)
def sitB (n : Net) (r : Int) (ls : List Int) : Bool := ruleOkB n r && ((ls.length : Int) == (n.ends.length : Int)) && stAll n r ls
/-- what the walks need -/
structure SitP (n : Net) (r : Int) (ls : List Int) : Prop where
  net : netOk n = true
  lo : 1 ≤ r
  hi : r ≤ 5
  runs : runsB n r = true
  len : ls.length = n.ends.length
  st : ∀ v, v < n.ends.length → 0 ≤ ls.getD v 0 ∧ ls.getD v 0 < countB n r v
theorem sitP_of {n : Net} {r : Int} {ls : List Int} (h : sitB n r ls = true) : SitP n r ls := by
  unfold sitB ruleOkB inB stAll stAt inB at h
  simp only [Bool.and_eq_true, decide_eq_true_eq, beq_iff_eq, List.all_eq_true, List.mem_range] at h
  obtain ⟨⟨⟨⟨h1, h2, h3⟩, h4⟩, h5⟩, h6⟩ := h
  exact ⟨h1, h2, h3, h4, by omega, fun v hv => by have := h6 v hv; omega⟩
theorem SitP.ring {n : Net} {ls : List Int} (h : SitP n 5 ls) {v : Nat} (hv : v < n.ends.length) : (rowOf n v).length = 2 := by
  have hr := h.runs
  unfold runsB ringB at hr
  simp only [Bool.and_eq_true, Bool.or_eq_true, bne_iff_ne, ne_eq, not_true_eq_false, false_or, Bool.not_eq_true', List.any_eq_false] at hr
  have := hr.2.1.1.1 n.ends[v] (List.getElem_mem hv)
  have e : rowOf n v = n.ends[v] := by unfold rowOf; rw [List.getD_eq_getElem?_getD, List.getElem?_eq_getElem hv]; rfl
  rw [e]
  unfold rowBad at this
  simp only [Bool.or_eq_true, bne_iff_ne, ne_eq, not_or, Decidable.not_not] at this
  omega
theorem countB_le {n : Net} (hn : netOk n = true) {r : Int} {v : Nat} (hv : v < n.ends.length) : countB n r v ≤ 41 := by
  have hm := (most_degs hn).2
  have hl := (netOk_len hn).2
  obtain ⟨es, hes⟩ := getx n.ends v hv
  have h6 := (netOk_row hn hes).1
  have e : n.ends.getD v [] = es := getD_of hes
  unfold countB
  rw [e]
  split
  · omega
  · split
    · omega
    · split <;> omega
theorem near_mem {ls : List Int} {es : List (Int × Int)} {x : Int} (h : x ∈ nearB ls es) : ∃ e ∈ es, ls.getD e.1.toNat 0 = x := by
  unfold nearB at h
  obtain ⟨e, he, rfl⟩ := List.mem_map.1 h
  exact ⟨e, he, rfl⟩
theorem mostB_ge {xs : List Int} {x : Int} (h : x ∈ xs) : x ≤ mostB xs := by
  have key : ∀ (xs : List Int) (a : Int), (∀ x ∈ xs, x ≤ xs.foldl mx a) ∧ a ≤ xs.foldl mx a := by
    intro xs
    induction xs with
    | nil => intro a; exact ⟨by simp, Int.le_refl _⟩
    | cons y ys ih =>
      intro a
      have h1 := ih (mx a y)
      have h2 : a ≤ mx a y ∧ y ≤ mx a y := by unfold mx; split <;> omega
      refine ⟨fun x hx => ?_, by rw [List.foldl_cons]; omega⟩
      rcases List.mem_cons.1 hx with rfl | hx
      · rw [List.foldl_cons]; omega
      · exact h1.1 x hx
  exact (key xs 0).1 x h
theorem row_bd {n : Net} (h : netOk n = true) {k : Nat} {es : List (Int × Int)} (hes : n.ends[k]? = some es) {e : Int × Int} (he : e ∈ es) : (0 ≤ e.1 ∧ e.1 < n.ends.length) ∧ 0 ≤ e.2 ∧ e.2 ≤ 5 := by
  have hk := lt_of_get hes
  have h1 := (netOk_row h hes).2 e he
  refine ⟨h1, ?_⟩
  have h' := h
  unfold netOk at h
  rw [Bool.and_eq_true, List.all_eq_true] at h
  have := h.2 k (List.mem_range.2 hk)
  rw [getD_of hes] at this
  unfold rowOkB at this
  rw [Bool.and_eq_true, List.all_eq_true] at this
  obtain ⟨j, hj⟩ := List.getElem?_of_mem he
  have := this.2 j (List.mem_range.2 (lt_of_get hj))
  rw [getD_of hj] at this
  unfold endOkB at this
  rw [Bool.and_eq_true] at this
  have hp := this.1
  unfold hasPortB inB at hp
  simp only [Bool.and_eq_true, decide_eq_true_eq] at hp
  obtain ⟨-, h6, -⟩ := node_at h' (k := e.1.toNat) (by omega)
  omega
theorem SitP.row {n : Net} {r : Int} {ls : List Int} (h : SitP n r ls) {v : Nat} (hv : v < n.ends.length) : n.ends[v]? = some (rowOf n v) ∧ (rowOf n v).length ≤ 6 ∧ ∀ e ∈ rowOf n v, (0 ≤ e.1 ∧ e.1 < ls.length) ∧ 0 ≤ e.2 ∧ e.2 ≤ 5 := by
  obtain ⟨es, hes⟩ := getx n.ends v hv
  have hr := netOk_row h.net hes
  have e : rowOf n v = es := getD_of hes
  rw [e]
  refine ⟨hes, hr.1, fun x hx => ?_⟩
  have := row_bd h.net hes hx
  rw [h.len]
  omega
theorem SitP.at {n : Net} {r : Int} {ls : List Int} (h : SitP n r ls) {x : Int} (h0 : 0 ≤ x) (h1 : x < ls.length) : 0 ≤ ls.getD x.toNat 0 ∧ ls.getD x.toNat 0 < countB n r x.toNat := h.st _ (by have := h.len; omega)
theorem SitP.near {n : Net} {r : Int} {ls : List Int} (h : SitP n r ls) {v : Nat} (hv : v < n.ends.length) : ∀ x ∈ nearB ls (rowOf n v), 0 ≤ x ∧ x ≤ 40 := by
  intro x hx
  obtain ⟨e, he, rfl⟩ := near_mem hx
  have hb := ((h.row hv).2.2 e he).1
  have h1 := h.at hb.1 hb.2
  have h2 := countB_le h.net (r := r) (v := e.1.toNat) (by have := h.len; omega)
  omega
theorem next_bd {n : Net} {r : Int} {ls : List Int} (h : SitP n r ls) {v : Nat} (hv : v < n.ends.length) : 0 ≤ nextB n r ls v ∧ nextB n r ls v < countB n r v := by
  have hs := h.st v hv
  have hnr := h.near hv
  have hrow := h.row hv
  unfold nextB
  by_cases h1 : r = 1
  · rw [if_pos h1]
    have e : countB n r v = (n.ends.length : Int) + 1 := by subst h1; simp [countB]
    rw [e]
    unfold treeB
    split
    · omega
    · have := treeStep_bd (nearB ls (rowOf n v)) n.ends.length n.ends.length (by omega) (by omega) (fun x hx => (hnr x hx).1)
      omega
  rw [if_neg h1]
  by_cases h2 : r = 2
  · rw [if_pos h2]
    split
    · have hb := leastB_bd (nearB ls (rowOf n v))
      have e : countB n r v = mostB (degsB n) + 1 := by subst h2; simp [countB]
      have hl : ((nearB ls (rowOf n v)).length : Int) ≤ mostB (degsB n) := by
        apply mostB_ge
        rw [show (nearB ls (rowOf n v)).length = (rowOf n v).length by simp [nearB]]
        exact List.mem_map.2 ⟨rowOf n v, List.mem_of_getElem? hrow.1, rfl⟩
      omega
    · exact hs
  rw [if_neg h2]
  by_cases h3 : r = 3
  · rw [if_pos h3]
    have e : countB n r v = 2 := by subst h3; simp [countB]
    split <;> omega
  rw [if_neg h3]
  by_cases h4 : r = 4
  · rw [if_pos h4]
    have e : countB n r v = ((rowOf n v).length : Int) + 1 := by subst h4; simp [countB, rowOf]
    have i1 := eidx_bd (wantB ls) (rowOf n v)
    have i2 := eidx_bd (freeB ls) (rowOf n v)
    unfold matchB
    split
    · split <;> omega
    · split <;> omega
  rw [if_neg h4]
  obtain rfl : r = 5 := by have := h.lo; have := h.hi; omega
  have e : ∀ w, countB n 5 w = (n.ends.length : Int) + 1 := by intro w; simp [countB]
  have h2 := h.ring hv
  obtain ⟨x, hx⟩ := getx (rowOf n v) 1 (by omega)
  have hxb := (hrow.2.2 x (List.mem_of_getElem? hx)).1
  have hb : 0 ≤ beforeB n ls v ∧ beforeB n ls v < (n.ends.length : Int) + 1 := by
    unfold beforeB
    rw [getD_of hx]
    have := h.at hxb.1 hxb.2
    rw [e] at this
    exact this
  rw [e] at hs ⊢
  unfold tokenB
  split
  · split
    · have h1 := Int.emod_nonneg (ls.getD v 0 + 1) (show (n.ends.length : Int) + 1 ≠ 0 by omega)
      have h2 := Int.emod_lt_of_pos (ls.getD v 0 + 1) (show (0 : Int) < (n.ends.length : Int) + 1 by omega)
      omega
    · omega
  · exact hb
-- the enabled nodes and the moves
def restB (n : Net) (r : Int) (ls : List Int) (x : Int) : Bool := nextB n r ls x.toNat == ls.getD x.toNat 0
def enB (n : Net) (r : Int) (ls : List Int) : List Int := keptB (restB n r ls) (upto ls.length)
def putB (n : Net) (r : Int) (ls : List Int) (out : List Int) (v : Int) : List Int := out.set v.toNat (nextB n r ls v.toNat)
def moveB (n : Net) (r : Int) (ls set : List Int) : List Int := set.foldl (putB n r ls) ls
theorem putB_ok {n : Net} {r : Int} {ls out : List Int} (h : SitP n r ls) (ho : SitP n r out) {v : Int} (h0 : 0 ≤ v) (h1 : v < ls.length) : SitP n r (putB n r ls out v) := by
  have hb := next_bd h (v := v.toNat) (by have := h.len; omega)
  unfold putB
  refine { ho with len := by rw [List.length_set]; exact ho.len, st := fun w hw => ?_ }
  rw [List.getD_eq_getElem?_getD, List.getElem?_set]
  split
  · rename_i e
    subst e
    split
    · exact hb
    · rename_i hlt; exact absurd (show v.toNat < out.length by rw [ho.len]; exact hw) hlt
  · rw [← List.getD_eq_getElem?_getD]; exact ho.st w hw
theorem moveB_ok {n : Net} {r : Int} {ls : List Int} (h : SitP n r ls) : ∀ (set out : List Int), SitP n r out → (∀ v ∈ set, 0 ≤ v ∧ v < ls.length) → SitP n r (set.foldl (putB n r ls) out)
  | [], _, ho, _ => ho
  | v :: set, out, ho, hs => moveB_ok h set _ (putB_ok h ho (hs v (by simp)).1 (hs v (by simp)).2) (fun x hx => hs x (List.mem_cons_of_mem _ hx))
theorem enB_mem {n : Net} {r : Int} {ls : List Int} {v : Int} (h : v ∈ enB n r ls) : 0 ≤ v ∧ v < ls.length := by
  unfold enB keptB upto at h
  obtain ⟨h, -⟩ := List.mem_filter.1 h
  obtain ⟨i, hi, rfl⟩ := List.mem_map.1 h
  have := List.mem_range.1 hi
  simp only [Int.ofNat_eq_natCast]
  omega
-- the runs
def togB (n : Net) (r : Int) : Nat → List Int → Int → List Int × Int
  | 0, ls, k => (ls, k)
  | f + 1, ls, k => if (enB n r ls).length = 0 then (ls, k) else togB n r f (moveB n r ls (enB n r ls)) (k + 1)
def pickB (n : Net) (r : Int) (ps ls : List Int) (k : Nat) : Int := (enB n r ls).getD ((ps.getD (k % ps.length) 0) % ((enB n r ls).length : Int)).toNat 0
def cenB (n : Net) (r : Int) (ps : List Int) : Nat → List Int → Nat → List Int × Int
  | 0, ls, k => (ls, k)
  | f + 1, ls, k => if (enB n r ls).length = 0 then (ls, k) else cenB n r ps f (putB n r ls ls (pickB n r ps ls k)) (k + 1)
end Go.Proofs.YtlfehdikgbgloaaGreat
