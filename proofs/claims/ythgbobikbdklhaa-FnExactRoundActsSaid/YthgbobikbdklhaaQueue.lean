import Derived.Test.YthgbobikbdklhaaNear
import Derived.Test.YthgbobikbdklhaaFlow5
import Derived.Test.YthgbobikbdklhaaDel
import Derived.ArgAppend
namespace Go.Proofs.Ythgbobikbdklhaa
open Go.RowKit
/-! a slice of integers of the call's own that begins anywhere in its row (a queue) -/
def QA (W : World) (base g off cap : Nat) (xs : List Int) : Prop :=
  base ≤ g ∧ xs.length ≤ cap ∧ cap ≤ maxLen ∧ ∃ cur : Array Value, W.heap[g]? = some (.cells cur 3 (0, 0)) ∧ off + cap ≤ cur.size ∧ ∀ j x, xs[j]? = some x → cur[off + j]? = some (.int .i64 x)
theorem QA.cell {W : World} {base g off cap : Nat} {xs : List Int} (h : QA W base g off cap xs) {j : Nat} {x : Int} (hx : xs[j]? = some x) : W.cell? ⟨g, off + j, none⟩ = some (.int .i64 x) := by
  obtain ⟨-, -, -, cur, h1, -, h3⟩ := h
  simp [World.cell?, h1, h3 j x hx]
theorem QA.lt {W : World} {base g off cap : Nat} {xs : List Int} (h : QA W base g off cap xs) : g < W.heap.size := by
  obtain ⟨-, -, -, cur, h1, -⟩ := h
  exact (Array.getElem?_eq_some_iff.1 h1).1
theorem QA.stable {W W' : World} {base g off cap : Nat} {xs : List Int} (h : QA W base g off cap xs) (hs : W'.heap[g]? = W.heap[g]?) : QA W' base g off cap xs := by
  obtain ⟨h1, h2, h3, cur, h4, h5⟩ := h
  exact ⟨h1, h2, h3, cur, hs.trans h4, h5⟩
theorem QA.since {W W' : World} {base g off cap : Nat} {xs : List Int} (h : QA W base g off cap xs) (hs : Since W W') : QA W' base g off cap xs := h.stable (hs.below.block g h.lt)
theorem QA.other {W : World} {base g off cap : Nat} {xs : List Int} (h : QA W base g off cap xs) {b : Nat} (hb : g ≠ b) (k : Nat) (v : Value) : QA (W.setCell ⟨b, k, none⟩ v) base g off cap xs := h.stable (Below.heap_setCell W _ v g hb)
theorem QA.tail {W : World} {base g off cap : Nat} {x : Int} {xs : List Int} (h : QA W base g off cap (x :: xs)) : QA W base g (off + 1) (cap - 1) xs := by
  obtain ⟨h1, h2, h3, cur, h4, h5, h6⟩ := h
  rw [List.length_cons] at h2
  exact ⟨h1, by omega, by omega, cur, h4, by omega, fun j y hy => by
    have := h6 (j + 1) y (by simpa using hy)
    rwa [show off + (j + 1) = off + 1 + j by omega] at this⟩
theorem QA.nil {W : World} {base g off cap : Nat} {xs : List Int} (h : QA W base g off cap xs) : QA W base g off 0 [] := by
  obtain ⟨h1, h2, h3, cur, h4, h5, h6⟩ := h
  exact ⟨h1, Nat.le_refl _, Nat.zero_le _, cur, h4, by omega, fun j y hy => by simp at hy⟩
theorem QA.one (W : World) (base : Nat) (x : Int) (h : base ≤ W.heap.size) : QA (W.alloc (.cells #[.int .i64 x] 3)) base W.heap.size 0 1 [x] := by
  refine ⟨h, Nat.le_refl _, by simp [maxLen], #[.int .i64 x], ?_, by simp, fun j y hy => ?_⟩
  · show (W.heap.push _)[W.heap.size]? = _
    rw [Array.getElem?_push_size]
  · have := lt_of_get hy
    simp at this
    subst this
    simpa using hy
theorem app_q {w w0 : World} {ops : Array Oper} {rest : List Oper} {o : Oper} {a : Act} {Q : Exit → Act → World → Prop} (hgd : o.guard = none) (s x : Operand)
    (ho : o.op = .call { callee := .builtin .append, args := #[s, x], argTypes := #[23, 23] }) {g off cap : Nat} {xs : List Int} (hs : a.eval s = .slice (some ⟨g, off, none⟩) xs.length cap) (h : QA w w0.heap.size g off cap xs) (b : Nat) (y : Int)
    (hx : a.eval x = .slice (some ⟨b, 0, none⟩) 1 1) (hc : w.cell? ⟨b, 0, none⟩ = some (.int .i64 y)) (hl : xs.length + 1 ≤ 1000000) (hsn : Since w0 w)
    (k : ∀ g' off' cap' w', QA w' w0.heap.size g' off' cap' (xs ++ [y]) → Only [g] w w' → (g' = g ∨ w.heap.size ≤ g') → Since w0 w' → wpList Try.prog ops Q rest (a.put o.dst (.slice (some ⟨g', off', none⟩) (xs.length + 1) cap')) w') : wpList Try.prog ops Q (o :: rest) a w := by
  obtain ⟨i0, hi, hz0, hz1, hz2⟩ := info_parts int_info
  have hq := h
  obtain ⟨h1, h2, h3, cur, h4, h5, h6⟩ := h
  refine wpList_append_arg w hgd s x 23 ho 3 i0 (.int .i64 0) 1 8 Try.underlying23 hi hz0 hz1 hz2 rfl (by decide) g off xs.length cap (xs.map (Value.int .i64)) hs (by simp)
    (fun j u hj => by
      rw [List.getElem?_map] at hj
      cases hxj : xs[j]? with
      | none => rw [hxj] at hj; cases hj
      | some z => rw [hxj] at hj; cases hj; exact hq.cell hxj)
    ⟨b, 0, none⟩ 1 1 [.int .i64 y] hx rfl
    (fun j u hj => by
      have := lt_of_get hj
      simp at this
      subst this
      simp at hj
      subst hj
      rw [Go.Addr.add_lit]
      exact hc)
    (by simp [Value.oneCell'])
    (fun hr j hj => by
      simp at hj
      subst hj
      have hlt : off + xs.length * 1 + 0 < cur.size := by omega
      constructor
      · simp [World.cell?, h4]
        omega
      · simp [World.frozen?, h4])
    (by unfold maxLen; omega) (by omega) ?_ ?_
  · intro hr
    have hlt : off + xs.length < cur.size := by omega
    have e : w.setCells g (off + xs.length * 1) [.int .i64 y] = w.setCell ⟨g, off + xs.length, none⟩ (.int .i64 y) := by rw [Nat.mul_one]; rfl
    rw [e]
    refine k g off cap _ ⟨h1, by simp; omega, h3, cur.setIfInBounds (off + xs.length) (.int .i64 y), ?_, by simpa using h5, fun j z hj => ?_⟩ ((Only.refl _ _).setCell (.inl (by simp)) _) (.inl rfl) (Below.setCell hsn h1 _)
    · simp [World.setCell, Array.getElem?_modify, h4]
    · by_cases e2 : j = xs.length
      · subst e2
        simp at hj
        subst hj
        simp [hlt]
      · have hj2 : xs[j]? = some z := by
          have hjl := lt_of_get hj
          rw [List.length_append, List.length_singleton] at hjl
          rwa [List.getElem?_append_left (by omega)] at hj
        rw [Array.getElem?_setIfInBounds_ne (by omega)]
        exact h6 j z hj2
  · intro hr v' w' hown hgrow
    rcases hown.2 with ⟨rfl, hn⟩ | ⟨g', cap', cur', rfl, hb', hg', hn', hc', hsz', htk⟩
    · omega
    · refine k g' 0 cap' w' ⟨by have := hsn.below.size; omega, by simpa using hn', hc', cur', hg', by omega, fun j z hj => ?_⟩ ((Only.of_grown hgrow).mono (fun _ h => by simp at h)) (.inr hb') (Below.trans hsn ((Only.of_grown hgrow).below _ hsn.below.size (fun _ h => by simp at h)))
      have e3 : (xs.map (Value.int .i64) ++ [.int .i64 y])[j]? = some (.int .i64 z) := by
        have : (xs.map (Value.int .i64) ++ [.int .i64 y]) = (xs ++ [y]).map (Value.int .i64) := by simp
        rw [this, List.getElem?_map, hj]; rfl
      rw [← htk] at e3
      have hj3 := lt_of_get e3
      rw [List.getElem?_take] at e3
      split at e3
      · rw [Nat.zero_add]; simpa using e3
      · cases e3
end Go.Proofs.Ythgbobikbdklhaa
