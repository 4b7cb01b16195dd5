/- Parts of the proof: walks of functions and plain laws. -/
import Derived.Test.YtomnaabadohecaaGreatP4
namespace Go.Proofs.YtomnaabadohecaaGreat
open Go.RowKit
theorem RowLaw.put {β : Type} {R : World → Nat → Value → β → List Nat → Prop} (L : RowLaw R) {w : World} {base : Nat} {v : Value} {x : β} {S : List Nat} (h : R w base v x S) {p : Addr} (hp : p.block < base) (u : Value) : R (w.setCell p u) base v x S := L.stable h fun k hk => Below.heap_setCell _ _ _ _ (by have := (L.range h k hk).1; omega)
theorem sizeSet (w : World) (p : Addr) (u : Value) : (w.setCell p u).heap.size = w.heap.size := by simp [World.setCell]
def BoxA (w : World) (b : Nat) (vs : Array Value) : Prop := ∃ r, w.heap[b]? = some (.cells vs r)
theorem BoxA.lt {w : World} {b : Nat} {vs : Array Value} (h : BoxA w b vs) : b < w.heap.size := by
  obtain ⟨r, h⟩ := h
  exact (Array.getElem?_eq_some_iff.1 h).1
theorem BoxA.below {w w' : World} {B b : Nat} {vs : Array Value} (h : BoxA w b vs) (hb : Below B w w') (hB : b < B) : BoxA w' b vs := by
  obtain ⟨r, h⟩ := h
  exact ⟨r, by rw [hb.block b hB]; exact h⟩
theorem BoxA.set {w : World} {b : Nat} {vs : Array Value} {u : Value} {p : Addr} (h : BoxA w b vs) (ha : p.block ≠ b) : BoxA (w.setCell p u) b vs := by
  obtain ⟨r, h⟩ := h
  exact ⟨r, by rw [Below.heap_setCell _ _ _ _ (fun e => ha e.symm)]; exact h⟩
theorem BoxA.cell {w : World} {b : Nat} {vs : Array Value} (h : BoxA w b vs) (i : Nat) (u : Value) (hi : vs[i]? = some u) : w.cell? ⟨b, i, none⟩ = some u ∧ w.frozen? ⟨b, i, none⟩ = false := by
  obtain ⟨r, h⟩ := h
  exact ⟨by simp [World.cell?, h, hi], by simp [World.frozen?, h]⟩
theorem BoxA.alloc {w : World} {b : Nat} {vs : Array Value} (h : BoxA w b vs) (o : Obj) : BoxA (w.alloc o) b vs := h.below (below_alloc w o) h.lt
theorem BoxA.new (w : World) (vs : Array Value) (t : TypeId) : BoxA (w.alloc (.cells vs t)) w.heap.size vs := ⟨t, by show (w.heap.push _)[w.heap.size]? = _; rw [Array.getElem?_push_size]⟩
end Go.Proofs.YtomnaabadohecaaGreat
namespace Go.Proofs.YtomnaabadohecaaGreat
open Go.RowKit
/-! rows of clauses: a number, a row of numbers, a number -/
structure Cl where
  state : Int
  inbox : List Int
  next : Int
def ClauseS (w : World) (v : Value) (cs : List Cl) : Prop :=
  ∃ (A : Option Addr) (c : Nat), v = .slice A cs.length c ∧ cs.length ≤ c ∧ c ≤ maxLen ∧
    (∀ k x, cs[k]? = some x → ∃ b off u, A = some ⟨b, off, none⟩ ∧ w.cell? ⟨b, off + k * 3, none⟩ = some (.int .i64 x.state) ∧ w.cell? ⟨b, off + k * 3 + 1, none⟩ = some u ∧ w.cell? ⟨b, off + k * 3 + 2, none⟩ = some (.int .i64 x.next) ∧ IntS w u x.inbox)
theorem ClauseS.keep {w w' : World} {v : Value} {xs : List Cl} (h : ClauseS w v xs) (hb : Below w.heap.size w w') : ClauseS w' v xs := by
  obtain ⟨A, c, hv, hc, hm, hA⟩ := h
  refine ⟨A, c, hv, hc, hm, fun k x hk => ?_⟩
  obtain ⟨b, off, u, hA', h1, h2, h3, h4⟩ := hA k x hk
  exact ⟨b, off, u, hA', bc hb h1, bc hb h2, bc hb h3, h4.keep hb⟩
end Go.Proofs.YtomnaabadohecaaGreat
namespace Go.Proofs.YtomnaabadohecaaGreat
open Go.RowKit
/-! a row of clauses of its own -/
def encC (e : Int × Value × Int) : List Value := [.int .i64 e.1, e.2.1, .int .i64 e.2.2]
def OwnC3 : World → Nat → Value → List (Int × Value × Int) → List Nat → Prop := LeafR 159 3 encC
theorem encC_get {es : List (Int × Value × Int)} {k : Nat} {x : Int × Value × Int} (h : es[k]? = some x) : (es.flatMap encC)[k * 3]? = some (.int .i64 x.1) ∧ (es.flatMap encC)[k * 3 + 1]? = some x.2.1 ∧ (es.flatMap encC)[k * 3 + 2]? = some (.int .i64 x.2.2) := by
  induction es generalizing k with
  | nil => simp at h
  | cons e es ih =>
    cases k with
    | zero => simp at h; subst h; simp [encC]
    | succ k =>
      have := ih (k := k) (by simpa using h)
      rw [List.flatMap_cons, show (k + 1) * 3 = k * 3 + 3 by omega]
      simp only [encC, List.cons_append, List.nil_append]
      exact ⟨by simpa using this.1, by rw [show k * 3 + 3 + 1 = (k * 3 + 1) + 1 + 1 + 1 by omega]; simpa using this.2.1, by rw [show k * 3 + 3 + 2 = (k * 3 + 2) + 1 + 1 + 1 by omega]; simpa using this.2.2⟩
theorem encC_set {es : List (Int × Value × Int)} {k : Nat} (x : Int × Value × Int) (h : k < es.length) : (((es.flatMap encC).set (k * 3) (.int .i64 x.1)).set (k * 3 + 1) x.2.1).set (k * 3 + 2) (.int .i64 x.2.2) = (es.set k x).flatMap encC := by
  induction es generalizing k with
  | nil => simp at h
  | cons e es ih =>
    cases k with
    | zero => simp [encC]
    | succ k =>
      have := ih (k := k) (by simpa using h)
      rw [List.flatMap_cons, show (k + 1) * 3 = k * 3 + 1 + 1 + 1 by omega]
      simp only [encC, List.cons_append, List.nil_append, List.set_cons_succ, List.flatMap_cons] at this ⊢
      rw [this]
theorem OwnC3.cells {w : World} {base g c n : Nat} {es : List (Int × Value × Int)} {S : List Nat} (h : OwnC3 w base (.slice (some ⟨g, 0, none⟩) n c) es S) {k : Nat} {x : Int × Value × Int} (hx : es[k]? = some x) :
    w.cell? ⟨g, k * 3, none⟩ = some (.int .i64 x.1) ∧ w.cell? ⟨g, k * 3 + 1, none⟩ = some x.2.1 ∧ w.cell? ⟨g, k * 3 + 2, none⟩ = some (.int .i64 x.2.2) ∧ w.frozen? ⟨g, k * 3, none⟩ = false ∧ w.frozen? ⟨g, k * 3 + 1, none⟩ = false ∧ w.frozen? ⟨g, k * 3 + 2, none⟩ = false := by
  obtain ⟨h, _⟩ := h
  have hn := ownsRow_len h
  subst hn
  have := lt_of_get hx
  exact ⟨by rw [h.cellAt (cap := c) _ (by omega)]; exact (encC_get hx).1, by rw [h.cellAt (cap := c) _ (by omega)]; exact (encC_get hx).2.1, by rw [h.cellAt (cap := c) _ (by omega)]; exact (encC_get hx).2.2, h.frozenAt _, h.frozenAt _, h.frozenAt _⟩
theorem OwnC3.set {w : World} {base g c n : Nat} {es : List (Int × Value × Int)} {S : List Nat} (h : OwnC3 w base (.slice (some ⟨g, 0, none⟩) n c) es S) {k : Nat} (hk : k < es.length) (x : Int × Value × Int) :
    OwnC3 (((w.setCell ⟨g, k * 3, none⟩ (.int .i64 x.1)).setCell ⟨g, k * 3 + 1, none⟩ x.2.1).setCell ⟨g, k * 3 + 2, none⟩ (.int .i64 x.2.2)) base (.slice (some ⟨g, 0, none⟩) n c) (es.set k x) S := by
  obtain ⟨h, hS⟩ := h
  have hn := ownsRow_len h
  subst hn
  have h1 := (h.stored (k * 3) (.int .i64 x.1)).1
  have h2 := (h1.stored (k * 3 + 1) x.2.1).1
  have h3 := (h2.stored (k * 3 + 2) (.int .i64 x.2.2)).1
  rw [encC_set x hk] at h3
  refine ⟨?_, hS⟩
  rw [List.length_set]
  exact h3
/-- a row of clauses that no change below base touches -/
def OwnCl (w : World) (base : Nat) (v : Value) (cs : List Cl) : Prop := ∀ w', (∀ k, base ≤ k → k < w.heap.size → w'.heap[k]? = w.heap[k]?) → ClauseS w' v cs
theorem OwnCl.read {w : World} {base : Nat} {v : Value} {cs : List Cl} (h : OwnCl w base v cs) : ClauseS w v cs := h w fun _ _ _ => rfl
theorem OwnCl.mono {w : World} {base base' : Nat} {v : Value} {cs : List Cl} (h : OwnCl w base v cs) (hb : base' ≤ base) : OwnCl w base' v cs := fun w' h' => h w' fun k h1 h2 => h' k (by omega) h2
theorem OwnCl.keep {w w1 : World} {base : Nat} {v : Value} {cs : List Cl} (h : OwnCl w base v cs) (hb : Below w.heap.size w w1) : OwnCl w1 base v cs := fun w' h' => h w' fun k h1 h2 => (h' k h1 (Nat.lt_of_lt_of_le h2 hb.size)).trans (hb.block k h2)
theorem OwnCl.put {w : World} {base : Nat} {v : Value} {cs : List Cl} (h : OwnCl w base v cs) {p : Addr} (hp : p.block < base) (u : Value) : OwnCl (w.setCell p u) base v cs := fun w' h' => h w' fun k h1 h2 => (h' k h1 (by rw [sizeSet]; exact h2)).trans (Below.heap_setCell _ _ _ _ (by omega))
section
variable {ops : Array Oper} {rest : List Oper} {o : Oper} {a : Act} {Q : Exit → Act → World → Prop}
end
end Go.Proofs.YtomnaabadohecaaGreat
namespace Go.Proofs.YtomnaabadohecaaGreat
open Go.RowKit
/-! equal clauses are found equal -/
end Go.Proofs.YtomnaabadohecaaGreat
namespace Go.Proofs.YtomnaabadohecaaGreat
open Go.RowKit
/-! machines (written by tools/macgen.py) -/
structure Mac where
  degree : Int
  states : Int
  messages : Int
  start : List (List Int)
  send : List (List Int)
  clauses : List Cl
  output : List Int
def MacIn (w : World) (a b c d : Value) (x : Mac) : Prop := IntSS w a x.start ∧ IntSS w b x.send ∧ ClauseS w c x.clauses ∧ IntS w d x.output
theorem MacIn.keep {w w' : World} {a b c d : Value} {x : Mac} (h : MacIn w a b c d x) (hb : Below w.heap.size w w') : MacIn w' a b c d x := ⟨h.1.keep hb, h.2.1.keep hb, h.2.2.1.keep hb, h.2.2.2.keep hb⟩
end Go.Proofs.YtomnaabadohecaaGreat
namespace Go.Proofs.YtomnaabadohecaaGreat
open Go.RowKit
end Go.Proofs.YtomnaabadohecaaGreat
namespace Go.Proofs.YtomnaabadohecaaGreat
open Go.ChangeShapes Go.WideShapes Go.ChangeAt Go.RowKit Go.Joins Go.Deep
/-! machines and states of asynchronous runs, opened -/
section
variable {H : Type} {enc : TypeId × Value → H} {W : World}
end
end Go.Proofs.YtomnaabadohecaaGreat
namespace Go.Proofs.YtomnaabadohecaaGreat
open Go.RowKit
theorem left_cases {l : Int} (hl : 0 ≤ l) (hl2 : l ≤ 1048576) (k : Nat) : left l k = -1 ∨ ∃ q : Int, left l k = q ∧ 0 ≤ q ∧ q ≤ 1048576 ∧ k ≤ 1048576 := by
  by_cases h : l - k < 0
  · exact Or.inl (by unfold left; rw [if_pos h])
  · exact Or.inr ⟨l - k, by unfold left; rw [if_neg h], by omega, by omega, by omega⟩
end Go.Proofs.YtomnaabadohecaaGreat
