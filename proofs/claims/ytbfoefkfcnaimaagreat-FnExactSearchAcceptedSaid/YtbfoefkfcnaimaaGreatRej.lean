import Derived.Test.YtbfoefkfcnaimaaGreatMod1
import Derived.Test.YtbfoefkfcnaimaaGreatDel
import Derived.Test.YtbfoefkfcnaimaaGreatLawKit
import Derived.Laws.EntriesVeiled
namespace Go.Proofs.YtbfoefkfcnaimaaGreat
open Go.RowKit
end Go.Proofs.YtbfoefkfcnaimaaGreat
namespace Go.Proofs.YtbfoefkfcnaimaaGreat
open Go.RowKit
def rejNode (n : Net) (m : Int) (ls : List Int) (v : Int) : Bool := modS m (ls.getD v.toNat 0) (nearB ls (n.ends.getD v.toNat []))
def fnExactRejectModulo_r1 (n : Net) (m : Int) (ls : List Int) : Bool := netOk n && inB 3 40 m && ((ls.length : Int) == (n.ends.length : Int)) && ls.all (inB 0 (m - 1))
def fnExactRejectModulo_d (n : Net) (m : Int) (ls : List Int) : List Int := if fnExactRejectModulo_r1 n m ls then keptB (rejNode n m ls) (upto ls.length) else []
/-- what a node of good labels has -/
theorem rej_at {n : Net} {m : Int} {ls : List Int} (h : fnExactRejectModulo_r1 n m ls = true) {k : Nat} (hk : k < ls.length) :
    ∃ es l, n.ends[k]? = some es ∧ ls[k]? = some l ∧ es.length ≤ 6 ∧ (∀ e ∈ es, 0 ≤ e.1 ∧ e.1 < ls.length) ∧ 3 ≤ m ∧ m ≤ 40 ∧ 0 ≤ l ∧ l < m ∧ (∀ x ∈ nearB ls es, 0 ≤ x ∧ x < m) ∧ rejNode n m ls k = modS m l (nearB ls es) ∧ modI m l (nearB ls es) = modS m l (nearB ls es) := by
  unfold fnExactRejectModulo_r1 at h
  simp only [Bool.and_eq_true, beq_iff_eq] at h
  obtain ⟨⟨⟨h1, h2⟩, h3⟩, h4⟩ := h
  have hm := inB_iff.1 h2
  have hl : ls.length = n.ends.length := by omega
  obtain ⟨es, hes⟩ := getx n.ends k (by omega)
  obtain ⟨l, hl'⟩ := getx ls k hk
  obtain ⟨r1, r2⟩ := netOk_row h1 hes
  rw [List.all_eq_true] at h4
  have ha : ∀ x ∈ ls, 0 ≤ x ∧ x < m := fun x hx => by have := inB_iff.1 (h4 x hx); omega
  have hll := ha l (List.mem_of_getElem? hl')
  have hin : ∀ e ∈ es, 0 ≤ e.1 ∧ e.1 < ls.length := fun e he => by rw [hl]; exact r2 e he
  have hx : ∀ x ∈ nearB ls es, 0 ≤ x ∧ x < m := fun x hx => by
    obtain ⟨e, he, rfl⟩ := List.mem_map.1 hx
    obtain ⟨i1, i2⟩ := hin e he
    have : e.1.toNat < ls.length := by omega
    rw [List.getD_eq_getElem?_getD, List.getElem?_eq_getElem this]
    exact ha _ (List.getElem_mem this)
  exact ⟨es, l, hes, hl', r1, hin, hm.1, hm.2, hll.1, hll.2, hx, by simp [rejNode, hes, hl'], mod_eq hm.1 hll.1 hll.2 hx⟩
theorem kept_snoc (p : Int → Bool) (k : Nat) : keptB p (upto (k + 1)) = keptB p (upto k) ++ if p k then [] else [(k : Int)] := by
  rw [upto_snoc]
  unfold keptB
  rw [List.filter_append]
  congr 1
  cases h : p (k : Int) <;> simp [h]
def allB (ls : List Int) (lo hi : Int) : Bool := ls.all (inB lo hi)
theorem l1All_b (v : Value) (xs : List Int) (lo hi : Int) (w : World) (h : IntS w v xs) :
    Calls Tryz.prog 46 #[v, .int .i64 lo, .int .i64 hi] w fun e w' => e = .returned (.bool (allB xs lo hi)) ∧ w = w' := l1All_any v xs lo hi w h
theorem allWithin_b (v : Value) (xs : List Int) (lo hi : Int) (w : World) (h : IntS w v xs) :
    Calls Tryz.prog 54 #[v, .int .i64 lo, .int .i64 hi] w fun e w' => e = .returned (.bool (allB xs lo hi)) ∧ Below w.heap.size w w' := allWithin_any v xs lo hi w h
theorem rej_wrap {a c : Bool} {m : Int} (h : (a || !inB 3 40 m || c) = false) : IntKind.i64.wrap (m - 1) = m - 1 := by
  simp only [Bool.or_eq_false_iff, Bool.not_eq_false'] at h
  have := inB_iff.1 h.1.2
  exact wr64 _ (by omega) (by omega)
end Go.Proofs.YtbfoefkfcnaimaaGreat
namespace Go.Proofs.YtbfoefkfcnaimaaGreat
open Go.RowKit
/-- the verifier of remainders as a value -/
theorem rej_len {n : Net} {m : Int} {ls : List Int} (h : fnExactRejectModulo_r1 n m ls = true) : ls.length ≤ 1000000 := by
  unfold fnExactRejectModulo_r1 at h
  simp only [Bool.and_eq_true, beq_iff_eq] at h
  have := netOk_len h.1.1.1
  omega
theorem fnExactRejectModulo_dl (n : Net) (m : Int) (ls : List Int) (_ : szNet n ≤ 1048576) (hb : ls.length ≤ 1048576) : (fnExactRejectModulo_d n m ls).length ≤ 4611686018427387904 := by
  unfold fnExactRejectModulo_d
  split
  · have := kept_le (rejNode n m ls) (upto ls.length)
    rw [upto_len] at this
    omega
  · simp
end Go.Proofs.YtbfoefkfcnaimaaGreat
