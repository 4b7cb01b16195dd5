import Derived.Test.YthgbobikbdklhaaRowL
import Derived.Test.YthgbobikbdklhaaCross4
import Derived.Test.YthgbobikbdklhaaCrossPlain
import Derived.Test.YthgbobikbdklhaaGood2
import Derived.Test.YthgbobikbdklhaaRuns
namespace Go.Proofs.Ythgbobikbdklhaa
open Go.RowKit
/-! all crossings of a network -/
def lenE (n : Net) (v : Nat) : Nat := (n.ends.getD v []).length
def cE (n : Net) (ls : List Int) (p q : Nat × Nat) : Bool := hidB n.ends ls ((p.1 : Int), (p.2 : Int)) ((q.1 : Int), (q.2 : Int))
def fE (p q : Nat × Nat) : Q4 := ((p.1 : Int), (p.2 : Int), (q.1 : Int), (q.2 : Int))
theorem cE_port {n : Net} {ls : List Int} (p q : Nat × Nat) (h : cE n ls p q = true) : p.2 = q.2 := by
  unfold cE hidB at h
  simp only [Bool.and_eq_true, beq_iff_eq] at h
  have := h.1.1.1.2
  omega
def cross3 (n : Net) (ls : List Int) (u i t : Nat) : List Q4 := ((List.range' (u + 1) t).filter fun w => decide (i < lenE n w) && cE n ls (u, i) (w, i)).map fun w => fE (u, i) (w, i)
def cross2 (n : Net) (ls : List Int) (u j : Nat) : List Q4 := (List.range j).flatMap fun i => cross3 n ls u i (n.ends.length - (u + 1))
def crossTo (n : Net) (ls : List Int) (k : Nat) : List Q4 := (List.range k).flatMap fun u => cross2 n ls u (lenE n u)
def crossings (n : Net) (ls : List Int) : List Q4 := crossTo n ls n.ends.length
theorem crossTo_succ (n : Net) (ls : List Int) (k : Nat) : crossTo n ls (k + 1) = crossTo n ls k ++ cross2 n ls k (lenE n k) := by
  unfold crossTo
  rw [List.range_succ, List.flatMap_append]
  simp
theorem cross2_succ (n : Net) (ls : List Int) (u j : Nat) : cross2 n ls u (j + 1) = cross2 n ls u j ++ cross3 n ls u j (n.ends.length - (u + 1)) := by
  unfold cross2
  rw [List.range_succ, List.flatMap_append]
  simp
theorem cross3_succ (n : Net) (ls : List Int) (u i t : Nat) : cross3 n ls u i (t + 1) = cross3 n ls u i t ++ if decide (i < lenE n (u + 1 + t)) && cE n ls (u, i) (u + 1 + t, i) then [fE (u, i) (u + 1 + t, i)] else [] := by
  unfold cross3
  rw [show List.range' (u + 1) (t + 1) = List.range' (u + 1) t ++ [u + 1 + t] by rw [List.range'_concat]; simp, List.filter_append, List.map_append]
  congr 1
  cases h : (decide (i < lenE n (u + 1 + t)) && cE n ls (u, i) (u + 1 + t, i)) <;> simp [h]
theorem cross3_len (n : Net) (ls : List Int) (u i t : Nat) : (cross3 n ls u i t).length ≤ t := by
  unfold cross3
  rw [List.length_map]
  refine Nat.le_trans (List.length_filter_le _ _) ?_
  simp
theorem flat_len {α β : Type} (f : α → List β) (b : Nat) : ∀ (l : List α), (∀ x ∈ l, (f x).length ≤ b) → (l.flatMap f).length ≤ l.length * b
  | [], _ => by simp
  | x :: r, h => by
    rw [List.flatMap_cons, List.length_append, List.length_cons, Nat.add_mul, Nat.one_mul]
    have h1 := h x (by simp)
    have h2 := flat_len f b r (fun y hy => h y (List.mem_cons_of_mem _ hy))
    omega
theorem cross2_len (n : Net) (ls : List Int) (u j : Nat) : (cross2 n ls u j).length ≤ j * n.ends.length := by
  have := flat_len (fun i => cross3 n ls u i (n.ends.length - (u + 1))) n.ends.length (List.range j) (fun i _ => Nat.le_trans (cross3_len n ls u i _) (by omega))
  rw [List.length_range] at this
  exact this
theorem lenE_le {n : Net} (hn : netOk n = true) (u : Nat) : lenE n u ≤ 6 := by
  unfold lenE
  cases h : n.ends[u]? with
  | none => simp [h]
  | some es =>
    have := (netOk_row hn h).1
    simp [h]
    omega
theorem crossTo_len {n : Net} (ls : List Int) (hn : netOk n = true) (k : Nat) : (crossTo n ls k).length ≤ k * 240 := by
  have hl := (netOk_len hn).2
  have := flat_len (fun u => cross2 n ls u (lenE n u)) 240 (List.range k) (fun u _ => Nat.le_trans (cross2_len n ls u _) (by have := lenE_le hn u; calc lenE n u * n.ends.length ≤ 6 * 40 := Nat.mul_le_mul (by omega) (by omega)
                                                                                                                                                      _ = 240 := rfl))
  rw [List.length_range] at this
  exact this
theorem crossings_all (n : Net) (ls : List Int) : crossings n ls = pairsOf (cE n ls) fE (portsFrom (lenE n) 0 n.ends.length) := by
  rw [pairs_all cE_port]
  unfold crossings crossTo crossAll cross2 cross3 crossAt
  simp only [List.range_eq_range', Nat.zero_add]
/-! the pairs of the program, one port after the other -/
def pairRow (n : Net) (ls : List Int) (ps : List (Nat × Nat)) (a t : Nat) : List Q4 := (((ps.drop (a + 1)).take t).filter (cE n ls (ps.getD a (0, 0)))).map (fE (ps.getD a (0, 0)))
def pairTo (n : Net) (ls : List Int) (ps : List (Nat × Nat)) (k : Nat) : List Q4 := (List.range k).flatMap fun a => pairRow n ls ps a (ps.length - (a + 1))
theorem pairTo_succ (n : Net) (ls : List Int) (ps : List (Nat × Nat)) (k : Nat) : pairTo n ls ps (k + 1) = pairTo n ls ps k ++ pairRow n ls ps k (ps.length - (k + 1)) := by
  unfold pairTo
  rw [List.range_succ, List.flatMap_append]
  simp
theorem pairRow_succ {n : Net} {ls : List Int} {ps : List (Nat × Nat)} {a t : Nat} {q : Nat × Nat} (h : ps[a + 1 + t]? = some q) : pairRow n ls ps a (t + 1) = pairRow n ls ps a t ++ if cE n ls (ps.getD a (0, 0)) q then [fE (ps.getD a (0, 0)) q] else [] := by
  unfold pairRow
  rw [take_snoc (show (ps.drop (a + 1))[t]? = some q by rw [List.getElem?_drop]; exact h), List.filter_append, List.map_append]
  congr 1
  generalize ps.getD a (0, 0) = p
  cases h : cE n ls p q <;> simp [h]
theorem pairRow_len (n : Net) (ls : List Int) (ps : List (Nat × Nat)) (a t : Nat) : (pairRow n ls ps a t).length ≤ t := by
  unfold pairRow
  rw [List.length_map]
  refine Nat.le_trans (List.length_filter_le _ _) ?_
  rw [List.length_take]
  omega
theorem pairTo_len (n : Net) (ls : List Int) (ps : List (Nat × Nat)) (k : Nat) : (pairTo n ls ps k).length ≤ k * ps.length := by
  have := flat_len (fun a => pairRow n ls ps a (ps.length - (a + 1))) ps.length (List.range k) (fun i _ => Nat.le_trans (pairRow_len n ls ps i _) (by omega))
  rw [List.length_range] at this
  exact this
theorem pairTo_all (n : Net) (ls : List Int) : ∀ (ps : List (Nat × Nat)), pairTo n ls ps ps.length = pairsOf (cE n ls) fE ps
  | [] => rfl
  | p :: r => by
    have ih := pairTo_all n ls r
    unfold pairTo at ih ⊢
    rw [List.length_cons, List.range_succ_eq_map, List.flatMap_cons, List.flatMap_map, pairsOf, ← ih]
    congr 1
    · unfold pairRow
      simp
    · congr 1
      funext a
      unfold pairRow
      simp
/-- the ports as ends -/
def endsOf (ps : List (Nat × Nat)) : List (Int × Int) := ps.map fun p => ((p.1 : Int), (p.2 : Int))
theorem portsFrom_succ (len : Nat → Nat) (k : Nat) : portsFrom len 0 (k + 1) = portsFrom len 0 k ++ rowP len k := by
  unfold portsFrom
  rw [show List.range' 0 (k + 1) = List.range' 0 k ++ [k] by rw [List.range'_concat]; simp, List.flatMap_append]
  simp
theorem ports_len {n : Net} (hn : netOk n = true) (k : Nat) : (portsFrom (lenE n) 0 k).length ≤ k * 6 := by
  have := flat_len (rowP (lenE n)) 6 (List.range' 0 k) (fun u _ => by unfold rowP; rw [List.length_map, List.length_range]; exact lenE_le hn u)
  rw [List.length_range'] at this
  exact this
theorem ports_mem {n : Net} {p : Nat × Nat} (h : p ∈ portsFrom (lenE n) 0 n.ends.length) : p.1 < n.ends.length ∧ p.2 < lenE n p.1 := by
  unfold portsFrom at h
  obtain ⟨u, hu, hp⟩ := List.mem_flatMap.1 h
  unfold rowP at hp
  obtain ⟨i, hi, rfl⟩ := List.mem_map.1 hp
  simp at hu hi
  exact ⟨hu, hi⟩
theorem port_has {n : Net} {v i : Nat} (hv : v < n.ends.length) (hi : i < lenE n v) : hasPortB n.ends (v : Int) (i : Int) = true := by
  unfold hasPortB inB
  unfold lenE at hi
  simp only [Bool.and_eq_true, decide_eq_true_eq, Int.toNat_natCast]
  omega
end Go.Proofs.Ythgbobikbdklhaa
