import Derived.Test.YthgbobikbdklhaaOpens
import Derived.Test.YthgbobikbdklhaaNetW
import Derived.Deep.SlicePairs
import Derived.Deep.Slices
import Derived.Lib.SmallJoins
namespace Go.Proofs.Ythgbobikbdklhaa
open Go.ChangeShapes Go.WideShapes Go.ChangeAt Go.RowKit Go.Joins Go.Deep
def Es64 (es : List (Int × Int)) : Prop := ∀ e ∈ es, (-9223372036854775808 ≤ e.1 ∧ e.1 ≤ 9223372036854775807) ∧ (-9223372036854775808 ≤ e.2 ∧ e.2 ≤ 9223372036854775807)
def Net64 (n : Net) : Prop := (∀ es ∈ n.ends, Es64 es) ∧ I64s n.ids ∧ I64s n.inputs
theorem plain_of_cell {W : World} {a : Addr} {v : Value} (h : W.cell? (a.add 0) = some v) : ∃ b off, a = ⟨b, off, none⟩ := by
  obtain ⟨b, off, spot⟩ := a
  have hspot : spot = none := by simpa [Addr.add] using World.cell?_spot h
  subst hspot
  exact ⟨b, off, rfl⟩
section
variable {H : Type} {enc : TypeId × Value → H} {W : World}
set_option maxRecDepth 100000 in
theorem open_endS {n : Nat} {v : Value} {y : DataW H × List MemPlace} (h : DataW.trod enc Try.prog W 0 (fun _ => true) true n 72 [v] = some y) : ∃ es, EndS W v es ∧ Es64 es := by
  rcases open_slice_pairs Try.underlying72 Try.underlying82 (by kernel_rfl) rfl rfl (by kernel_rfl) (by kernel_rfl) h with ⟨hcs, _⟩ | ⟨a, len, cap, m, n', V0, V1, D0, D1, P0, P1, hcs, _, hl, hm, hmm, _, hall⟩
  · simp at hcs; subst hcs
    exact ⟨[], ⟨none, 0, rfl, Nat.le_refl _, Nat.zero_le _, fun k e hk => by simp at hk⟩, by simp [Es64]⟩
  · simp at hcs; subst hcs
    simp only [if_true] at hmm
    subst hmm
    have each : ∀ i, i < m → ∃ x z, W.cell? (a.add (i * 2)) = some (.int .i64 x) ∧ W.cell? (a.add (i * 2 + 1)) = some (.int .i64 z) ∧ intOf (V0 i) = x ∧ intOf (V1 i) = z ∧ (-9223372036854775808 ≤ x ∧ x ≤ 9223372036854775807) ∧ (-9223372036854775808 ≤ z ∧ z ≤ 9223372036854775807) := fun i hi => by
      obtain ⟨h1, h2, h3, h4⟩ := hall i hi
      obtain ⟨x, hx, _, wx⟩ := DataW.trod_int Try.underlying3 h3
      obtain ⟨z, hz, _, wz⟩ := DataW.trod_int Try.underlying3 h4
      simp at hx hz
      exact ⟨x, z, by rw [h1, hx], by rw [h2, hz], by rw [hx]; rfl, by rw [hz]; rfl, wf_i64 wx, wf_i64 wz⟩
    refine ⟨(List.range len).map fun i => (intOf (V0 i), intOf (V1 i)), ⟨some a, m, by simp, by simpa using hl, hm, fun k e hk => ?_⟩, fun e he => ?_⟩
    · have hk' : k < len := by have := lt_of_get hk; simpa using this
      obtain ⟨x, z, h1, h2, e1, e2, _⟩ := each k (by omega)
      obtain ⟨_, _, g1, _⟩ := each 0 (by omega)
      obtain ⟨b, off, rfl⟩ := plain_of_cell g1
      rw [add_plain] at h1 h2
      simp [hk'] at hk
      subst hk
      exact ⟨b, off, rfl, by rw [h1, e1], by rw [Nat.add_assoc, h2, e2]⟩
    · obtain ⟨k, hk, rfl⟩ := List.mem_map.1 he
      obtain ⟨x, z, _, _, e1, e2, b1, b2⟩ := each k (by have := List.mem_range.1 hk; omega)
      rw [e1, e2]
      exact ⟨b1, b2⟩
set_option maxRecDepth 100000 in
theorem open_endSS {n : Nat} {v : Value} {y : DataW H × List MemPlace} (h : DataW.trod enc Try.prog W 0 (fun _ => true) true n 22 [v] = some y) : ∃ ess, EndSS W v ess ∧ ∀ es ∈ ess, Es64 es := by
  rcases open_slice Try.underlying22 h with ⟨hcs, _⟩ | ⟨a, len, cap, m, n', D, Pl, hcs, _, hl, hm, hmm, _, hall⟩
  · simp at hcs; subst hcs
    exact ⟨[], ⟨none, 0, rfl, Nat.le_refl _, Nat.zero_le _, fun k e hk => by simp at hk⟩, by simp⟩
  · simp at hcs; subst hcs
    simp only [if_true] at hmm
    subst hmm
    have hc1 : Try.prog.cellsOf 72 = 1 := by kernel_rfl
    have each : ∀ i, ∃ u es, i < m → W.cell? (a.add i) = some u ∧ EndS W u es ∧ Es64 es := fun i => by
      by_cases hi : i < m
      · obtain ⟨cs', h1, h2⟩ := hall i hi
        rw [hc1, Nat.mul_one] at h1
        obtain ⟨_, hlen, hcell⟩ := World.cells?_some h1
        match cs', hlen with
        | [u], _ =>
          have := hcell 0 (by omega)
          obtain ⟨es, h3, h4⟩ := open_endS h2
          refine ⟨u, es, fun _ => ⟨?_, h3, h4⟩⟩
          simpa [Addr.add] using this
      · exact ⟨.bool true, [], fun h => absurd h hi⟩
    obtain ⟨U, hU⟩ := Classical.axiomOfChoice each
    obtain ⟨E, hE⟩ := Classical.axiomOfChoice hU
    refine ⟨(List.range len).map E, ⟨some a, m, by simp, by simpa using hl, hm, fun k e hk => ?_⟩, fun e he => ?_⟩
    · have hk' : k < len := by have := lt_of_get hk; simpa using this
      obtain ⟨h1, h2, _⟩ := hE k (by omega)
      obtain ⟨b, off, rfl⟩ := plain_of_cell (hE 0 (by omega)).1
      rw [add_plain] at h1
      simp [hk'] at hk
      subst hk
      exact ⟨b, off, U k, rfl, h1, h2⟩
    · obtain ⟨k, hk, rfl⟩ := List.mem_map.1 he
      exact (hE k (by have := List.mem_range.1 hk; omega)).2.2
set_option maxRecDepth 100000 in
theorem open_ints1 {n : Nat} {v : Value} {y : DataW H × List MemPlace} (h : DataW.trod enc Try.prog W 0 (fun _ => true) true n 23 [v] = some y) : ∃ xs, IntS W v xs ∧ I64s xs := by
  rcases open_ints Try.underlying23 Try.underlying3 (by kernel_rfl) h with ⟨hcs, _⟩ | ⟨x, l, c, zs, hcs, _, hl, hm, hz, _, hcell, hwz⟩
  · simp at hcs; subst hcs
    exact ⟨[], IntS.nil W, by simp [I64s]⟩
  · simp at hcs; subst hcs
    exact ⟨zs.take _, intS_of_cells hl hm (by simpa using hz) hcell, fun x hx => wf_i64 (hwz x (List.mem_of_mem_take hx))⟩
set_option maxRecDepth 100000 in
theorem open_net {r : Reach} {b0 : Nat} {v : Value} {d : DataW H} {p : List MemPlace}
    (hv : Value.okWide Try.prog W r b0 25 v) (h : DataW.Trod enc Try.prog W 0 (fun _ => true) true 25 v d p) : ∃ ve vi vn n, v = .agg #[ve, vi, vn] ∧ NetIn W ve vi vn n ∧ Net64 n := by
  obtain ⟨v0, v1, v2, y0, y1, y2, m, rfl, _, _, h0, h1, h2⟩ := open_agg3 Try.underlying25 (by kernel_rfl) (by kernel_rfl) hv h
  obtain ⟨es, e1, e2⟩ := open_endSS h0
  obtain ⟨xs, x1, x2⟩ := open_ints1 h1
  obtain ⟨zs, z1, z2⟩ := open_ints1 h2
  exact ⟨v0, v1, v2, ⟨es, xs, zs⟩, rfl, ⟨e1, x1, z1⟩, e2, x2, z2⟩
end
end Go.Proofs.Ythgbobikbdklhaa
