import Derived.Test.YthgbobikbdklhaaNear
import Derived.Lib.SliceRun
namespace Go.Proofs.Ythgbobikbdklhaa
open Go.RowKit
theorem Own.cut {w : World} {base g n c : Nat} {xs : List Int} (h : Own w base (.slice (some ⟨g, 0, none⟩) n c) xs) (i : Nat) (hi : i ≤ n) : Own w base (.slice (some ⟨g, 0, none⟩) i c) (xs.take i) := by
  obtain rfl := h.len
  unfold Own at *
  have hl : (xs.take i).length = i := by simp; omega
  rw [hl]
  rcases h.2 with ⟨h', _⟩ | ⟨g', cap, cur, h', hb, hg, hnc, hm, hcs, htake⟩
  · simp at h'
  · simp only [Value.slice.injEq, Option.some.injEq, Addr.mk.injEq, and_true, true_and] at h'
    obtain ⟨rfl, rfl, rfl⟩ := h'
    refine ⟨by simp; omega, .inr ⟨g, c, cur, rfl, hb, hg, by omega, hm, hcs, ?_⟩⟩
    rw [List.map_take, ← htake, List.take_take]
    congr 1
    simp; omega
theorem Own.clear {base g n c : Nat} (m : Nat) : ∀ {w : World} {xs : List Int} (o : Nat), Own w base (.slice (some ⟨g, 0, none⟩) n c) xs → ∃ ys, Own (w.setCells g o (List.replicate m (.int .i64 0))) base (.slice (some ⟨g, 0, none⟩) n c) ys ∧ ys.take o = xs.take o := by
  induction m with
  | zero => intro w xs o h; exact ⟨xs, h, rfl⟩
  | succ m ih =>
    intro w xs o h
    obtain ⟨ys, h1, h2⟩ := ih (o + 1) (h.set (k := o) 0)
    refine ⟨ys, h1, ?_⟩
    have := congrArg (List.take o) h2
    rw [List.take_take, List.take_take, Nat.min_eq_left (by omega)] at this
    rw [this]
    apply List.ext_getElem?
    intro j
    rw [List.getElem?_take, List.getElem?_take]
    split
    · rw [List.getElem?_set_ne (by omega)]
    · rfl
theorem since_cells {w0 : World} {g : Nat} (hg : w0.heap.size ≤ g) (vs : List Value) : ∀ (w : World) (o : Nat), Since w0 w → Since w0 (w.setCells g o vs) := by
  induction vs with
  | nil => intro w o h; exact h
  | cons v vs ih => intro w o h; exact ih _ _ (Below.setCell h hg v)
def keptB (p : Int → Bool) (xs : List Int) : List Int := xs.filter fun x => !p x
theorem kept_le (p : Int → Bool) (xs : List Int) : (keptB p xs).length ≤ xs.length := List.length_filter_le _ _
end Go.Proofs.Ythgbobikbdklhaa
namespace Go.Proofs.Ythgbobikbdklhaa
open Go.RowKit
theorem Own.grown {w w' : World} {base : Nat} {v : Value} {xs : List Int} {row : Option Nat} (h : Own w base v xs) (hg : w.grownBy w' row) (hd : ∀ q, v.ownBlock = some q → row ≠ some q) : Own w' base v xs :=
  ownsRow_stable h fun q hq => hg.block q (World.ownsRow.lt h q (by simpa using hq)).2 (fun e => hd q (by simpa using hq) e.symm)
/-- append of a whole row of integers -/
theorem app_ints {w : World} {ops : Array Oper} {rest : List Oper} {o : Oper} {a : Act} {Q : Exit → Act → World → Prop} (hgd : o.guard = none) (s x : Operand)
    (ho : o.op = .call { callee := .builtin .append, args := #[s, x], argTypes := #[23, 23] }) {base : Nat} {v : Value} {xs : List Int} (hs : a.eval s = v) (h : Own w base v xs) (b off c : Nat) (ys : List Int)
    (hx : a.eval x = .slice (some ⟨b, off, none⟩) ys.length c) (hc : ∀ j y, ys[j]? = some y → w.cell? ⟨b, off + j, none⟩ = some (.int .i64 y)) (hy : 0 < ys.length) (hl : xs.length + ys.length ≤ 17592186044416) (hbase : base ≤ w.heap.size)
    (k : ∀ g cap w', Own w' base (.slice (some ⟨g, 0, none⟩) (xs.length + ys.length) cap) (xs ++ ys) → w.grownBy w' v.ownBlock → (v.ownBlock = some g ∨ g = w.heap.size) → g < w'.heap.size → wpList Try.prog ops Q rest (a.put o.dst (.slice (some ⟨g, 0, none⟩) (xs.length + ys.length) cap)) w') : wpList Try.prog ops Q (o :: rest) a w := by
  obtain ⟨i0, hi, hz0, hz1, hz2⟩ := info_parts int_info
  refine wpList_append_lies w hgd s x 23 ho base 3 i0 (.int .i64 0) 1 8 Try.underlying23 hi hz0 hz1 hz2 rfl (by decide) v xs.length (xs.map (Value.int .i64)) hs h ⟨b, off, none⟩ ys.length c (ys.map (Value.int .i64)) hx (by simp)
    (by
      intro j u hj
      rw [List.getElem?_map] at hj
      cases hyj : ys[j]? with
      | none => rw [hyj] at hj; simp at hj
      | some y =>
        rw [hyj] at hj
        simp at hj
        subst hj
        rw [Go.Addr.add_lit]
        exact hc j y hyj) (by simp [Value.oneCell']) hy (by unfold maxLen; omega) (by omega) hbase w.heap.size rfl ?_
  intro g cap w' h1 h2 h3 h4
  refine k g cap w' ?_ h2 h3 h4
  unfold Own
  simpa using h1
set_option maxHeartbeats 2000000 in
theorem l1Own_any (v : Value) (xs : List Int) (w : World) (h : IntS w v xs) (h0' : 0 < xs.length) (hl : xs.length ≤ 17592186044416) :
    Calls Try.prog 67 #[v] w fun e w' => ∃ u, e = .returned u ∧ Own w' w.heap.size u xs ∧ Below w.heap.size w w' := by
  obtain ⟨A, c, rfl, hlc, hm, hA⟩ := h
  unfold maxLen at hm
  have ho := own_lit w [] (by simp [maxLen])
  simp only [List.map_nil, List.length_nil] at ho
  obtain ⟨y0, hy0⟩ := getx xs 0 (by omega)
  obtain ⟨b, off, rfl, _⟩ := hA 0 y0 hy0
  have HA : Hid (∀ j y, xs[j]? = some y → w.cell? ⟨b, off + j, none⟩ = some (.int .i64 y)) := fun j y hj => by
    obtain ⟨b', off', e, hc⟩ := hA j y hj
    cases e
    exact hc
  have Ho := Lib.hid ho
  clear hA hy0 ho
  go_enter Try.func67, Try.ntmps67
  go_wp2_with (at_builtin; refine app_ints rfl _ _ rfl rfl Ho.out b off c xs rfl (fun j y hj => bc (below_alloc _ _) (HA.out j y hj)) h0' (by simpa using hl) (by simp) ?_; intro g cc w2 ho2 hg2 _ _)
  simp only [List.length_nil, Nat.zero_add, List.nil_append] at ho2 ⊢
  have Ho2 := Lib.hid ho2
  have Hb2 : Hid (Below w.heap.size w w2) := (below_alloc w _).grown hg2 (by simp) (fun j hj => (World.ownsRow.lt Ho.out j hj).1)
  clear ho2 hg2
  go_wp2
  go_ret
  exact ⟨_, rfl, Ho2.out, Hb2.out⟩
end Go.Proofs.Ythgbobikbdklhaa
