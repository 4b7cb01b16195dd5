import Derived.Test.YthgbobikbdklhaaWords
import Derived.ShutString
import Derived.ChangeOld
namespace Go.Proofs.Ythgbobikbdklhaa
open Go.ChangeShapes Go.WideShapes Go.ChangeAt Go.RowKit
/-- each number fits an int -/
def I64s (xs : List Int) : Prop := ∀ x ∈ xs, -9223372036854775808 ≤ x ∧ x ≤ 9223372036854775807
theorem wf_i64 {x : Int} (h : (Lit.int .i64 x).wf = true) : -9223372036854775808 ≤ x ∧ x ≤ 9223372036854775807 := by
  have := bounds_i64 h; omega
theorem intS_of_cells {W : World} {a : Addr} {len cap : Nat} {zs : List Int} (hl : len ≤ cap) (hm : cap ≤ maxLen) (hz : zs.length = cap) (hcell : ∀ i, i < zs.length → W.cell? (a.add i) = some (.int .i64 (zs.getD i 0))) :
    IntS W (.slice (some a) len cap) (zs.take len) := by
  have hll : (zs.take len).length = len := by simp; omega
  refine ⟨some a, cap, by rw [hll], by omega, hm, fun k x hx => ?_⟩
  have hk : k < (zs.take len).length := lt_of_get hx
  rw [hll] at hk
  obtain ⟨b, off, rfl, hc⟩ := ints_at hcell (show 0 < zs.length by omega)
  refine ⟨b, off, rfl, ?_⟩
  have := hc k (by omega)
  rw [this]
  have hx' : zs[k]? = some x := by rw [List.getElem?_take, if_pos hk] at hx; exact hx
  simp [hx']
set_option maxRecDepth 100000 in
theorem open_intS {H : Type} {enc : TypeId × Value → H} {W : World} {r : Reach} {b0 : Nat} {v : Value} {d : DataW H} {p : List MemPlace}
    (hv : Value.okWide Try.prog W r b0 23 v) (h : DataW.Trod enc Try.prog W 0 (fun _ => true) true 23 v d p) : ∃ xs, IntS W v xs ∧ I64s xs := by
  obtain ⟨a0, len0, cap0, rfl⟩ := okWide_slice Try.underlying23 hv
  obtain ⟨fuel, hf⟩ := h
  rcases open_ints Try.underlying23 Try.underlying3 (by kernel_rfl) hf with ⟨hcs, _⟩ | ⟨x, l, c, zs, hcs, _, hl, hm, hz, _, hcell, hwz⟩
  · simp [Value.cells] at hcs
    obtain ⟨rfl, rfl, rfl⟩ := hcs
    exact ⟨[], IntS.nil W, by simp [I64s]⟩
  · simp [Value.cells] at hcs
    obtain ⟨rfl, rfl, rfl⟩ := hcs
    exact ⟨zs.take _, intS_of_cells hl hm (by simpa using hz) hcell, fun x hx => wf_i64 (hwz x (List.mem_of_mem_take hx))⟩
end Go.Proofs.Ythgbobikbdklhaa
