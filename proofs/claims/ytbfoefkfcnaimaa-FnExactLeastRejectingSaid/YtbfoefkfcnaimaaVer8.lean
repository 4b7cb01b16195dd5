import Derived.Test.YtbfoefkfcnaimaaVer7
namespace Go.Proofs.Ytbfoefkfcnaimaa
open Go.RowKit
def accAt (n : Net) (s : Int) (ls : List Int) (k : Nat) : Bool := accB n s ls (ls.getD k 0) (n.ids.getD k 0) (n.inputs.getD k 0) (n.ends.getD k [])
/-- what a node of good labels has -/
theorem acc_at {n : Net} {s : Int} {ls : List Int} (h : labOk n s ls = true) {k : Nat} (hk : k < n.ends.length) :
    ∃ es l idk ink, 1 ≤ s ∧ s ≤ 5 ∧ n.ends[k]? = some es ∧ es.length ≤ 6 ∧ (∀ e ∈ es, 0 ≤ e.1 ∧ e.1 < ls.length) ∧ (∀ x ∈ l :: nearB ls es, 0 ≤ x ∧ x ≤ 999999999999) ∧ ls[k]? = some l ∧ (n.ids.length ≠ 0 → n.ids[k]? = some idk) ∧ n.inputs[k]? = some ink ∧ accAt n s ls k = accB n s ls l idk ink es := by
  unfold labOk at h
  simp only [Bool.and_eq_true, beq_iff_eq] at h
  obtain ⟨⟨⟨h1, h2⟩, h3⟩, h4⟩ := h
  have hs := inB_iff.1 h2
  have hl : ls.length = n.ends.length := by omega
  obtain ⟨es, hes⟩ := getx n.ends k hk
  obtain ⟨l, hl'⟩ := getx ls k (by omega)
  obtain ⟨r1, r2⟩ := netOk_row h1 hes
  unfold allB' at h4
  rw [List.all_eq_true] at h4
  have ha : ∀ x ∈ ls, 0 ≤ x ∧ x ≤ 999999999999 := fun x hx => inB_iff.1 (h4 x hx)
  unfold netOk at h1
  simp only [Bool.and_eq_true] at h1
  obtain ⟨⟨⟨-, i1⟩, i2⟩, -⟩ := h1
  unfold inputsB at i2
  simp only [Bool.and_eq_true, beq_iff_eq] at i2
  obtain ⟨ink, hink⟩ := getx n.inputs k (by omega)
  have hids : n.ids.length ≠ 0 → n.ids[k]? = some (n.ids.getD k 0) := fun h0 => by
    unfold idsB at i1
    simp only [Bool.or_eq_true, Bool.and_eq_true, beq_iff_eq] at i1
    have : n.ids.length = n.ends.length := by
      rcases i1 with e | ⟨e, -⟩
      · exact absurd (by simpa using e) h0
      · omega
    have hk' : k < n.ids.length := by omega
    rw [List.getD_eq_getElem?_getD, List.getElem?_eq_getElem hk']; rfl
  exact ⟨es, l, _, ink, hs.1, hs.2, hes, r1, fun e he => by rw [hl]; exact r2 e he, fun x hx => ha x (seen_in hl' (fun e he => by rw [hl]; exact r2 e he) hx), hl', hids, hink, by simp [accAt, hes, hl', hink]⟩
theorem labOk_net {n : Net} {s : Int} {ls : List Int} (h : labOk n s ls = true) : netOk n = true ∧ ls.length = n.ends.length ∧ n.ends.length ≤ 40 := by
  unfold labOk at h
  simp only [Bool.and_eq_true, beq_iff_eq] at h
  exact ⟨h.1.1.1, by have := h.1.2; omega, (netOk_len h.1.1.1).2⟩
def fnExactVerifyAt_r1 (n : Net) (s : Int) (ls : List Int) (v : Int) : Bool := labOk n s ls && inB 0 ((n.ends.length : Int) - 1) v
def fnExactVerifyAt_r0 (n : Net) (s : Int) (ls : List Int) (v : Int) : Bool := fnExactVerifyAt_r1 n s ls v && accAt n s ls v.toNat
def nodeB (ess : List (List (Int × Int))) (v : Int) : Bool := inB 0 ((ess.length : Int) - 1) v
theorem hasNode_b (ve vi vn : Value) (ess : List (List (Int × Int))) (v : Int) (w : World) (h : EndSS w ve ess) :
    Calls Try.prog 64 #[.agg #[ve, vi, vn], .int .i64 v] w fun e w' => e = .returned (.bool (nodeB ess v)) ∧ Below w.heap.size w w' := hasNode_any ve vi vn ess v w h
theorem tup2 {a b c d : Bool} (h1 : a = b) (h2 : c = d) : Ending.returned (.tuple #[.bool a, .bool c]) = .returned (.tuple #[.bool b, .bool d]) := by rw [h1, h2]
end Go.Proofs.Ytbfoefkfcnaimaa
