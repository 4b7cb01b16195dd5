import Derived.Test.YthgbobikbdklhaaPlain
namespace Go.Proofs.Ythgbobikbdklhaa
/-! the crossings: the program's pairs of ports, and the reference's -/
def rowP (len : Nat → Nat) (v : Nat) : List (Nat × Nat) := (List.range (len v)).map fun i => (v, i)
def pairsOf {β : Type} (c : Nat × Nat → Nat × Nat → Bool) (f : Nat × Nat → Nat × Nat → β) : List (Nat × Nat) → List β
  | [] => []
  | p :: ps => (ps.filter (c p)).map (f p) ++ pairsOf c f ps
def portsFrom (len : Nat → Nat) (v n : Nat) : List (Nat × Nat) := (List.range' v n).flatMap (rowP len)
/-- the crossings of the port i of v -/
def crossAt {β : Type} (len : Nat → Nat) (c : Nat × Nat → Nat × Nat → Bool) (f : Nat × Nat → Nat × Nat → β) (v n i : Nat) : List β :=
  ((List.range' (v + 1) n).filter fun w => decide (i < len w) && c (v, i) (w, i)).map fun w => f (v, i) (w, i)
def crossAll {β : Type} (len : Nat → Nat) (c : Nat × Nat → Nat × Nat → Bool) (f : Nat × Nat → Nat × Nat → β) (v n : Nat) : List β :=
  (List.range' v n).flatMap fun u => (List.range (len u)).flatMap fun i => crossAt len c f u (v + n - (u + 1)) i
section
variable {β : Type} {len : Nat → Nat} {c : Nat × Nat → Nat × Nat → Bool} {f : Nat × Nat → Nat × Nat → β}
theorem filt_one (n i : Nat) (p : Nat → Bool) (hp : ∀ j, p j = true → i = j) : (List.range n).filter p = if decide (i < n) && p i then [i] else [] := by
  induction n with
  | zero => simp
  | succ n ih =>
    rw [List.range_succ, List.filter_append, ih]
    by_cases hin : i = n
    · subst hin
      cases hpi : p i <;> simp [hpi]
    · have hpn : p n = false := by
        cases h : p n
        · rfl
        · exact absurd (hp n h) hin
      have e : decide (i < n + 1) = decide (i < n) := by
        apply decide_eq_decide.2; omega
      rw [e]
      simp [hpn]
theorem filt_row (hc : ∀ p q, c p q = true → p.2 = q.2) (v i w : Nat) : (rowP len w).filter (c (v, i)) = if decide (i < len w) && c (v, i) (w, i) then [(w, i)] else [] := by
  unfold rowP
  rw [List.filter_map, filt_one (len w) i (c (v, i) ∘ fun i => (w, i)) (fun j hj => hc (v, i) (w, j) hj)]
  simp only [Function.comp]
  split <;> rfl
theorem filt_ports (hc : ∀ p q, c p q = true → p.2 = q.2) (v i u n : Nat) : (portsFrom len u n).filter (c (v, i)) = ((List.range' u n).filter fun w => decide (i < len w) && c (v, i) (w, i)).map fun w => (w, i) := by
  induction n generalizing u with
  | zero => rfl
  | succ n ih =>
    have ih := ih (u + 1)
    unfold portsFrom at ih ⊢
    rw [List.range'_succ, List.flatMap_cons, List.filter_append, ih, filt_row hc, List.filter_cons]
    split <;> simp
theorem pairs_row (hc : ∀ p q, c p q = true → p.2 = q.2) (v n : Nat) (js : List Nat) (hjs : js.Nodup) : pairsOf c f ((js.map fun i => (v, i)) ++ portsFrom len (v + 1) n) = (js.flatMap fun i => crossAt len c f v n i) ++ pairsOf c f (portsFrom len (v + 1) n) := by
  induction js with
  | nil => rfl
  | cons i js ih =>
    have h1 := List.nodup_cons.1 hjs
    rw [List.map_cons, List.cons_append, pairsOf, ih h1.2, List.filter_append, filt_ports hc, List.flatMap_cons, List.append_assoc]
    congr 1
    have : (js.map fun i => (v, i)).filter (c (v, i)) = [] := by
      rw [List.filter_eq_nil_iff]
      intro q hq
      obtain ⟨j, hj, rfl⟩ := List.mem_map.1 hq
      intro h
      have := hc _ _ h
      simp at this
      subst this
      exact h1.1 hj
    rw [this, List.nil_append, crossAt, List.map_map]
    rfl
theorem pairs_all (hc : ∀ p q, c p q = true → p.2 = q.2) (v n : Nat) : pairsOf c f (portsFrom len v n) = crossAll len c f v n := by
  induction n generalizing v with
  | zero => rfl
  | succ n ih =>
    have h := pairs_row (f := f) (len := len) hc v n (List.range (len v)) List.nodup_range
    unfold crossAll
    rw [List.range'_succ, List.flatMap_cons]
    have e : portsFrom len v (n + 1) = (List.range (len v)).map (fun i => (v, i)) ++ portsFrom len (v + 1) n := by
      unfold portsFrom
      rw [List.range'_succ, List.flatMap_cons]; rfl
    rw [e, h, ih (v + 1), crossAll, show v + (n + 1) - (v + 1) = n by omega]
    congr 1
    simp only [show ∀ u, v + (n + 1) - (u + 1) = v + 1 + n - (u + 1) by omega]
end
end Go.Proofs.Ythgbobikbdklhaa
