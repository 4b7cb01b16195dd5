import Derived.Test.YthgbobikbdklhaaSS1
namespace Go.Proofs.Ythgbobikbdklhaa
open Go.RowKit
/-! lists of lists of four numbers, made by append, with their own blocks -/
abbrev Q4 := Int × Int × Int × Int
def lst4 (x : Q4) : List Int := [x.1, x.2.1, x.2.2.1, x.2.2.2]
theorem rowR_info : (Try.prog.info? 23).map (fun i => (i.zero, i.size, i.bytes)) = some (some (.slice none 0 0), 1, 24) := by kernel_rfl
def fourR (x : Q4) : Obj := .cells #[.int .i64 x.1, .int .i64 x.2.1, .int .i64 x.2.2.1, .int .i64 x.2.2.2] 3
def rowR (b : Nat) : Value := .slice (some ⟨b, 0, none⟩) 4 4
/-- u owns the rows L, whose blocks lie below bd and differ -/
def OwnR (W : World) (base bd : Nat) (u : Value) (L : List Q4) : Prop :=
  ∃ bs : List Nat, bs.length = L.length ∧ W.ownsRow base 23 1 u L.length (bs.map rowR) ∧ (∀ (k : Nat) (x : Q4) (b : Nat), L[k]? = some x → bs[k]? = some b → base ≤ b ∧ b < bd ∧ W.heap[b]? = some (fourR x) ∧ u.ownBlock ≠ some b) ∧ bs.Nodup
theorem ownR_nil (W : World) (base bd : Nat) : OwnR W base bd (.slice none 0 0) [] := ⟨[], rfl, World.ownsRow_nil W base _ _, fun k x b hx => by simp at hx, List.nodup_nil⟩
theorem OwnR.keep {W W' : World} {base bd : Nat} {u : Value} {L : List Q4} (h : OwnR W base bd u L) (hs : Since W W') : OwnR W' base bd u L := by
  obtain ⟨bs, h1, h2, h3, h4⟩ := h
  refine ⟨bs, h1, ownsRow_stable h2 fun j hj => hs.below.block j (World.ownsRow.lt h2 j (by simpa using hj)).2, fun k x b hx hb => ?_, h4⟩
  obtain ⟨q1, q2, q3, q4⟩ := h3 k x b hx hb
  exact ⟨q1, q2, by rw [hs.below.block b (Array.getElem?_eq_some_iff.1 q3).1]; exact q3, q4⟩
theorem OwnR.up {W : World} {base bd bd' : Nat} {u : Value} {L : List Q4} (h : OwnR W base bd u L) (hb : bd ≤ bd') : OwnR W base bd' u L := by
  obtain ⟨bs, h1, h2, h3, h4⟩ := h
  exact ⟨bs, h1, h2, fun k x b hx hb' => ⟨(h3 k x b hx hb').1, Nat.lt_of_lt_of_le (h3 k x b hx hb').2.1 hb, (h3 k x b hx hb').2.2⟩, h4⟩
theorem OwnR.lt {W : World} {base bd b : Nat} {u : Value} {L : List Q4} (h : OwnR W base bd u L) (e : u.ownBlock = some b) : base ≤ b ∧ b < W.heap.size := by
  obtain ⟨bs, h1, h2, _⟩ := h
  exact World.ownsRow.lt h2 b e
theorem sing_flat : ∀ (bs : List Nat), (bs.map fun b => [b]).flatten = bs
  | [] => rfl
  | a :: r => by rw [List.map_cons, List.flatten_cons, sing_flat r]; rfl
theorem OwnR.toII {W : World} {base base' bd : Nat} {u : Value} {L : List Q4} (h : OwnR W base bd u L) (hb : base' ≤ base) : ∃ S, OwnII W base' u (L.map lst4) S := by
  obtain ⟨bs, h1, h2, h3, h4⟩ := h
  refine ⟨u.ownBlock.toList ++ (bs.map fun b => [b]).flatten, lawII.mono (show OwnII W base u (L.map lst4) _ from ⟨bs.map rowR, bs.map fun b => [b], by simpa using h2, by simp [h1], fun k v x T hv hx hT => ?_, rfl, ?_⟩) hb⟩
  · rw [List.getElem?_map] at hv hx hT
    obtain ⟨b, hb1, rfl⟩ := Option.map_eq_some_iff.1 hv
    obtain ⟨y, hy, rfl⟩ := Option.map_eq_some_iff.1 hx
    rw [hb1] at hT
    simp at hT
    subst hT
    obtain ⟨q1, q2, q3, q4⟩ := h3 k y b hy hb1
    refine ⟨⟨rfl, Or.inr ⟨b, 4, _, rfl, q1, q3, Nat.le_refl _, by unfold maxLen; omega, rfl, rfl⟩⟩, rfl⟩
  · rw [sing_flat]
    rw [List.nodup_append]
    refine ⟨by cases u.ownBlock <;> simp, h4, ?_⟩
    intro a ha c hc e
    subst e
    obtain ⟨k, hk, hkc⟩ := List.getElem_of_mem hc
    obtain ⟨q1, q2, q3, q4⟩ := h3 k (L[k]'(by omega)) a (List.getElem?_eq_getElem (by omega)) (by rw [List.getElem?_eq_getElem hk, hkc])
    exact q4 (by simpa using ha)
/-- append of one row -/
theorem app_rowR2 {w w0 : World} {ops : Array Oper} {rest : List Oper} {o : Oper} {a : Act} {Q : Exit → Act → World → Prop} (hgd : o.guard = none) (s x : Operand)
    (ho : o.op = .call { callee := .builtin .append, args := #[s, x], argTypes := #[27, 27] }) {v : Value} {L : List Q4} {bd : Nat} (hs : a.eval s = v) (h : OwnR w w0.heap.size bd v L) (b r : Nat) (y : Q4)
    (hx : a.eval x = .slice (some ⟨b, 0, none⟩) 1 1) (hc : w.cell? ⟨b, 0, none⟩ = some (rowR r)) (hr : w0.heap.size ≤ r) (hbr : bd ≤ r) (hr2 : w.heap[r]? = some (fourR y)) (hr3 : v.ownBlock ≠ some r) (hl : L.length + 1 ≤ 1000000) (hsn : Since w0 w)
    (k : ∀ g cap w', OwnR w' w0.heap.size w'.heap.size (.slice (some ⟨g, 0, none⟩) (L.length + 1) cap) (L ++ [y]) → Since w0 w' → (∀ j, j < w.heap.size → v.ownBlock ≠ some j → w'.heap[j]? = w.heap[j]?) → (v.ownBlock = some g ∨ g = w.heap.size) → wpList Try.prog ops Q rest (a.put o.dst (.slice (some ⟨g, 0, none⟩) (L.length + 1) cap)) w') : wpList Try.prog ops Q (o :: rest) a w := by
  obtain ⟨i0, hi, hz0, hz1, hz2⟩ := info_parts rowR_info
  obtain ⟨bs, h1, h2, h3, h4⟩ := h
  refine wpList_append_lies w hgd s x 27 ho w0.heap.size 23 i0 _ 1 24 Try.underlying27 hi hz0 hz1 hz2 rfl (by decide) v L.length (bs.map rowR) hs h2 ⟨b, 0, none⟩ 1 1 [rowR r] hx rfl
    (by intro j u hj; match j, hj with | 0, hj => (simp at hj; subst hj; simpa [Addr.add] using hc) | j + 1, hj => simp at hj) (by simp [Value.oneCell', rowR]) (by omega) (by unfold maxLen; omega) (by omega) hsn.below.size w.heap.size rfl ?_
  intro g cap w' q1 q2 q3 q4
  have hbel : Since w0 w' := Below.grown hsn q2 hsn.below.size (fun q hq => (World.ownsRow.lt h2 q hq).1)
  have hrl : r < w.heap.size := (Array.getElem?_eq_some_iff.1 hr2).1
  have hrb : w'.heap[r]? = some (fourR y) := by rw [q2.block r hrl (fun e => hr3 e.symm)]; exact hr2
  have hsz : r < w'.heap.size := (Array.getElem?_eq_some_iff.1 hrb).1
  have hgr : g ≠ r := fun e => by
    subst e
    rcases q3 with q3 | q3
    · exact hr3 q3
    · omega
  have hlt : ∀ c ∈ bs, c < bd := fun c hc => by
    obtain ⟨k, hk, hkc⟩ := List.getElem_of_mem hc
    exact (h3 k (L[k]'(by omega)) c (List.getElem?_eq_getElem (by omega)) (by rw [List.getElem?_eq_getElem hk, hkc])).2.1
  refine k g cap w' ⟨bs ++ [r], by simp [h1], by simpa using q1, fun k x b' hx hb => ?_, ?_⟩ hbel (fun j hj hne => q2.block j hj (fun e => hne e.symm)) q3
  · rcases Nat.lt_or_ge k L.length with hk | hk
    · rw [List.getElem?_append_left hk] at hx
      rw [List.getElem?_append_left (by omega)] at hb
      obtain ⟨p1, p2, p3, p4⟩ := h3 k x b' hx hb
      have hbl := (Array.getElem?_eq_some_iff.1 p3).1
      refine ⟨p1, by omega, by rw [q2.block b' hbl (fun e => p4 e.symm)]; exact p3, fun e => ?_⟩
      have e2 : g = b' := by simpa [Value.ownBlock] using e
      subst e2
      rcases q3 with q3 | q3
      · exact p4 q3
      · omega
    · have hk1 : k = L.length := by
        have := lt_of_get hx
        simp at this; omega
      subst hk1
      rw [List.getElem?_append_right (Nat.le_refl _), Nat.sub_self] at hx
      rw [← h1, List.getElem?_append_right (Nat.le_refl _), Nat.sub_self] at hb
      simp at hx hb
      subst hx hb
      refine ⟨hr, hsz, hrb, fun e => hgr ?_⟩
      simpa [Value.ownBlock] using e
  · rw [List.nodup_append]
    refine ⟨h4, by simp, ?_⟩
    intro a ha c hc e
    simp at hc
    subst e hc
    have := hlt _ ha
    omega
theorem app_rowR {w w0 : World} {ops : Array Oper} {rest : List Oper} {o : Oper} {a : Act} {Q : Exit → Act → World → Prop} (hgd : o.guard = none) (s x : Operand)
    (ho : o.op = .call { callee := .builtin .append, args := #[s, x], argTypes := #[27, 27] }) {v : Value} {L : List Q4} {bd : Nat} (hs : a.eval s = v) (h : OwnR w w0.heap.size bd v L) (b r : Nat) (y : Q4)
    (hx : a.eval x = .slice (some ⟨b, 0, none⟩) 1 1) (hc : w.cell? ⟨b, 0, none⟩ = some (rowR r)) (hr : w0.heap.size ≤ r) (hbr : bd ≤ r) (hr2 : w.heap[r]? = some (fourR y)) (hr3 : v.ownBlock ≠ some r) (hl : L.length + 1 ≤ 1000000) (hsn : Since w0 w)
    (k : ∀ g cap w', OwnR w' w0.heap.size w'.heap.size (.slice (some ⟨g, 0, none⟩) (L.length + 1) cap) (L ++ [y]) → Since w0 w' → wpList Try.prog ops Q rest (a.put o.dst (.slice (some ⟨g, 0, none⟩) (L.length + 1) cap)) w') : wpList Try.prog ops Q (o :: rest) a w :=
  app_rowR2 hgd s x ho hs h b r y hx hc hr hbr hr2 hr3 hl hsn fun g cap w' h1 h2 _ _ => k g cap w' h1 h2
end Go.Proofs.Ythgbobikbdklhaa
