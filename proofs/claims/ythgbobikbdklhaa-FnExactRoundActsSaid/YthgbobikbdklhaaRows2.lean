import Derived.Test.YthgbobikbdklhaaWords
namespace Go.Proofs.Ythgbobikbdklhaa
open Go.RowKit
/-- only the blocks of S, and new ones, have turned -/
structure Only (S : List Nat) (w w' : World) : Prop where
  os : w'.os = w.os
  tape : w'.tape = w.tape
  output : w'.output = w.output
  size : w.heap.size ≤ w'.heap.size
  block : ∀ k, k < w.heap.size → k ∉ S → w'.heap[k]? = w.heap[k]?
theorem Only.refl (S : List Nat) (w : World) : Only S w w := ⟨rfl, rfl, rfl, Nat.le_refl _, fun _ _ _ => rfl⟩
theorem Only.trans {S : List Nat} {a b c : World} (h : Only S a b) (k : Only S b c) : Only S a c :=
  ⟨k.os.trans h.os, k.tape.trans h.tape, k.output.trans h.output, Nat.le_trans h.size k.size, fun i hi hn => (k.block i (Nat.lt_of_lt_of_le hi h.size) hn).trans (h.block i hi hn)⟩
theorem Only.mono {S T : List Nat} {a b : World} (h : Only S a b) (hs : ∀ k ∈ S, k ∈ T) : Only T a b := ⟨h.os, h.tape, h.output, h.size, fun i hi hn => h.block i hi (fun e => hn (hs i e))⟩
theorem Only.below {S : List Nat} {a b : World} (h : Only S a b) (B : Nat) (hB : B ≤ a.heap.size) (hs : ∀ k ∈ S, B ≤ k) : Below B a b := ⟨h.os, h.tape, h.output, h.size, fun i hi => h.block i (by omega) (fun e => by have := hs i e; omega)⟩
theorem Only.of_below {S : List Nat} {a b : World} (h : Below a.heap.size a b) : Only S a b := ⟨h.os, h.tape, h.output, h.size, fun i hi _ => h.block i hi⟩
theorem Only.of_grown {a b : World} {row : Option Nat} (h : a.grownBy b row) : Only row.toList a b := ⟨h.os, h.tape, h.output, h.size, fun i hi hn => h.block i hi (fun e => hn (by rw [← e]; simp))⟩
theorem Only.grown {a b : World} {row : Option Nat} (h : Only row.toList a b) : a.grownBy b row := ⟨h.os, h.tape, h.output, h.size, fun i hi hn => h.block i hi (fun e => hn (by cases row <;> simp at e; rw [e]))⟩
theorem Only.drewN {S : List Nat} {a b : World} (h : Only S a b) (n : Nat) : Only S a (b.drewN n) := ⟨h.os, h.tape, h.output, h.size, h.block⟩
theorem Only.cell {S : List Nat} {a b : World} (h : Only S a b) {p : Addr} {u : Value} (hp : p.block ∉ S) (hc : a.cell? p = some u) : b.cell? p = some u :=
  (World.cell?_of_block (h.block p.block (World.block_lt_of_cell? a _ hc) hp)).trans hc
theorem Only.setCell {S : List Nat} {a w : World} (h : Only S a w) {p : Addr} (hp : p.block ∈ S ∨ a.heap.size ≤ p.block) (u : Value) : Only S a (w.setCell p u) :=
  ⟨h.os, h.tape, h.output, by simpa [World.setCell] using h.size, fun i hi hn => (Below.heap_setCell w p u i (by
    rintro rfl
    rcases hp with hp | hp
    · exact hn hp
    · omega)).trans (h.block i hi hn)⟩
theorem Only.alloc {S : List Nat} {a w : World} (h : Only S a w) (o : Obj) : Only S a (w.alloc o) := ⟨h.os, h.tape, h.output, Nat.le_trans h.size (by simp), fun i hi hn => (Below.heap_alloc w o i (Nat.lt_of_lt_of_le hi h.size)).trans (h.block i hi hn)⟩

/-- a way to own data: R w base v x S: v owns x, in the blocks S -/
structure RowLaw {β : Type} (R : World → Nat → Value → β → List Nat → Prop) : Prop where
  stable : ∀ {w w' : World} {base : Nat} {v : Value} {x : β} {S : List Nat}, R w base v x S → (∀ k ∈ S, w'.heap[k]? = w.heap[k]?) → R w' base v x S
  range : ∀ {w : World} {base : Nat} {v : Value} {x : β} {S : List Nat}, R w base v x S → ∀ k ∈ S, base ≤ k ∧ k < w.heap.size
  nodup : ∀ {w : World} {base : Nat} {v : Value} {x : β} {S : List Nat}, R w base v x S → S.Nodup
  mono : ∀ {w : World} {base base' : Nat} {v : Value} {x : β} {S : List Nat}, R w base v x S → base' ≤ base → R w base' v x S
  one : ∀ {w : World} {base : Nat} {v : Value} {x : β} {S : List Nat}, R w base v x S → ∃ A n c, v = .slice A n c

section
variable {β : Type} {R : World → Nat → Value → β → List Nat → Prop}
theorem RowLaw.keep (L : RowLaw R) {w w' : World} {base : Nat} {v : Value} {x : β} {S : List Nat} (h : R w base v x S) (hb : Below w.heap.size w w') : R w' base v x S := L.stable h fun k hk => hb.block k (L.range h k hk).2
theorem RowLaw.only (L : RowLaw R) {w w' : World} {base : Nat} {v : Value} {x : β} {S T : List Nat} (h : R w base v x S) (hb : Only T w w') (hd : ∀ k ∈ S, k ∉ T) : R w' base v x S := L.stable h fun k hk => hb.block k (L.range h k hk).2 (hd k hk)
end

/-- a row whose elements take size cells each -/
def LeafR {α : Type} (e : TypeId) (size : Nat) (enc : α → List Value) (w : World) (base : Nat) (v : Value) (xs : List α) (S : List Nat) : Prop :=
  w.ownsRow base e size v xs.length (xs.flatMap enc) ∧ S = v.ownBlock.toList

theorem ownsRow_stable {w w' : World} {base : Nat} {e : TypeId} {size : Nat} {v : Value} {n : Nat} {xs : List Value} (h : w.ownsRow base e size v n xs) (hs : ∀ k ∈ v.ownBlock.toList, w'.heap[k]? = w.heap[k]?) : w'.ownsRow base e size v n xs := by
  refine ⟨h.1, h.2.imp id ?_⟩
  rintro ⟨g, cap, cur, rfl, h2, h3, h4⟩
  exact ⟨g, cap, cur, rfl, h2, (hs g (by simp [Value.ownBlock])).trans h3, h4⟩
theorem ownsRow_mono {w : World} {base base' : Nat} {e : TypeId} {size : Nat} {v : Value} {n : Nat} {xs : List Value} (h : w.ownsRow base e size v n xs) (hb : base' ≤ base) : w.ownsRow base' e size v n xs :=
  ⟨h.1, h.2.imp id fun ⟨g, cap, cur, h1, h2, h3⟩ => ⟨g, cap, cur, h1, Nat.le_trans hb h2, h3⟩⟩
theorem ownsRow_one {w : World} {base : Nat} {e : TypeId} {size : Nat} {v : Value} {n : Nat} {xs : List Value} (h : w.ownsRow base e size v n xs) : ∃ A m c, v = .slice A m c := by
  rcases h.2 with ⟨rfl, _⟩ | ⟨g, cap, cur, rfl, _⟩
  · exact ⟨_, _, _, rfl⟩
  · exact ⟨_, _, _, rfl⟩
theorem leaf_law {α : Type} (e : TypeId) (size : Nat) (enc : α → List Value) : RowLaw (LeafR (α := α) e size enc) where
  stable := fun ⟨h, hS⟩ hs => ⟨ownsRow_stable h (fun k hk => hs k (by rw [hS]; exact hk)), hS⟩
  range := fun ⟨h, hS⟩ k hk => World.ownsRow.lt h k (by rw [hS] at hk; simpa using hk)
  nodup := fun {_ _ v _ _} ⟨_, hS⟩ => by rw [hS]; cases v.ownBlock <;> simp
  mono := fun ⟨h, hS⟩ hb => ⟨ownsRow_mono h hb, hS⟩
  one := fun ⟨h, _⟩ => ownsRow_one h

/-- a row of rows -/
def OwnRows {β : Type} (e : TypeId) (R : World → Nat → Value → β → List Nat → Prop) (w : World) (base : Nat) (v : Value) (xs : List β) (S : List Nat) : Prop :=
  ∃ (vs : List Value) (Ss : List (List Nat)), w.ownsRow base e 1 v xs.length vs ∧ Ss.length = xs.length ∧
    (∀ (k : Nat) u x T, vs[k]? = some u → xs[k]? = some x → Ss[k]? = some T → R w base u x T) ∧ S = v.ownBlock.toList ++ Ss.flatten ∧ S.Nodup

theorem rows_law {β : Type} {R : World → Nat → Value → β → List Nat → Prop} (e : TypeId) (L : RowLaw R) : RowLaw (OwnRows e R) where
  stable := fun {w w' base v xs S} h hs => by
    obtain ⟨vs, Ss, h1, h2, h3, h4, h5⟩ := h
    refine ⟨vs, Ss, ownsRow_stable h1 (fun k hk => hs k (by rw [h4]; simp [hk])), h2, fun k u x T hu hx hT => L.stable (h3 k u x T hu hx hT) (fun j hj => hs j ?_), h4, h5⟩
    rw [h4]
    exact List.mem_append_right _ (List.mem_flatten.2 ⟨T, List.mem_of_getElem? hT, hj⟩)
  range := fun {w base v xs S} h k hk => by
    obtain ⟨vs, Ss, h1, h2, h3, h4, h5⟩ := h
    rw [h4] at hk
    rcases List.mem_append.1 hk with hk | hk
    · exact World.ownsRow.lt h1 k (by simpa using hk)
    · obtain ⟨T, hT, hkT⟩ := List.mem_flatten.1 hk
      obtain ⟨j, hj⟩ := List.mem_iff_getElem?.1 hT
      have hlt : j < Ss.length := lt_of_get hj
      have hvl : vs.length = xs.length := by simpa using h1.1
      obtain ⟨u, hu⟩ := getx vs j (by omega)
      obtain ⟨x, hx⟩ := getx xs j (by omega)
      exact L.range (h3 j u x T hu hx hj) k hkT
  nodup := fun ⟨_, _, _, _, _, _, h5⟩ => h5
  mono := fun {w base base' v xs S} h hb => by
    obtain ⟨vs, Ss, h1, h2, h3, h4, h5⟩ := h
    exact ⟨vs, Ss, ownsRow_mono h1 hb, h2, fun k u x T hu hx hT => L.mono (h3 k u x T hu hx hT) hb, h4, h5⟩
  one := fun ⟨_, _, h1, _⟩ => ownsRow_one h1

section
variable {β : Type} {R : World → Nat → Value → β → List Nat → Prop} {e : TypeId} {w : World} {base g c n : Nat} {xs : List β} {S : List Nat}
theorem ownsRow_len {e : TypeId} {size : Nat} {m : Nat} {ys : List Value} (h : w.ownsRow base e size (.slice (some ⟨g, 0, none⟩) n c) m ys) : m = n := by
  rcases h.2 with ⟨h', _⟩ | ⟨g', cap', cur, h', _⟩
  · simp at h'
  · simp only [Value.slice.injEq] at h'
    exact h'.2.1.symm
theorem ownsRow_free {e : TypeId} {size : Nat} {m : Nat} {ys : List Value} (h : w.ownsRow base e size (.slice (some ⟨g, 0, none⟩) n c) m ys) (k : Nat) : w.frozen? ⟨g, k, none⟩ = false := by
  obtain rfl := ownsRow_len h
  exact h.frozenAt k
theorem ownsRow_cases {e : TypeId} {size : Nat} {m : Nat} {ys : List Value} {v : Value} (h : w.ownsRow base e size v m ys) : (v = .slice none 0 0 ∧ m = 0) ∨ ∃ g c, v = .slice (some ⟨g, 0, none⟩) m c ∧ base ≤ g ∧ g < w.heap.size ∧ m ≤ c ∧ c ≤ maxLen := by
  rcases h.2 with h | ⟨g, cap, cur, rfl, hb, hg, hnc, hm, hcs, htake⟩
  · exact .inl h
  · exact .inr ⟨g, cap, rfl, hb, (Array.getElem?_eq_some_iff.1 hg).1, hnc, hm⟩
/-- the k-th row -/
theorem OwnRows.at_ (h : OwnRows e R w base (.slice (some ⟨g, 0, none⟩) n c) xs S) {k : Nat} {x : β} (hx : xs[k]? = some x) : ∃ u T, w.cell? ⟨g, k, none⟩ = some u ∧ w.frozen? ⟨g, k, none⟩ = false ∧ R w base u x T ∧ (∀ j ∈ T, j ∈ S) ∧ g ∉ T ∧ g ∈ S := by
  obtain ⟨vs, Ss, h1, h2, h3, h4, h5⟩ := h
  have hk : k < xs.length := lt_of_get hx
  have hn := ownsRow_len h1
  have hvl : vs.length = xs.length := by simpa using h1.1
  obtain ⟨u, hu⟩ := getx vs k (by omega)
  obtain ⟨T, hT⟩ := getx Ss k (by omega)
  subst hn
  refine ⟨u, T, ?_, h1.frozenAt k, h3 k u x T hu hx hT, fun j hj => ?_, fun hg => ?_, ?_⟩
  · rw [h1.cellAt (cap := c) k (by omega)]; exact hu
  · rw [h4]; exact List.mem_append_right _ (List.mem_flatten.2 ⟨T, List.mem_of_getElem? hT, hj⟩)
  · rw [h4] at h5
    have := (List.nodup_append.1 h5).2.2 g (by simp [Value.ownBlock]) g (List.mem_flatten.2 ⟨T, List.mem_of_getElem? hT, hg⟩)
    exact this rfl
  · rw [h4]; simp [Value.ownBlock]
theorem flatten_set_mem {Ss : List (List Nat)} {k j : Nat} {T : List Nat} (h : j ∈ (Ss.set k T).flatten) : j ∈ Ss.flatten ∨ j ∈ T := by
  obtain ⟨U, hU, hj⟩ := List.mem_flatten.1 h
  rcases List.mem_or_eq_of_mem_set hU with h1 | h1
  · exact .inl (List.mem_flatten.2 ⟨U, h1, hj⟩)
  · subst h1; exact .inr hj
theorem flatten_set_nodup {Ss : List (List Nat)} {k : Nat} {T : List Nat} (h : Ss.flatten.Nodup) (hT : T.Nodup) (hd : ∀ i j U, i ≠ k → Ss[i]? = some U → j ∈ U → j ∉ T) : (Ss.set k T).flatten.Nodup := by
  induction Ss generalizing k with
  | nil => simp
  | cons U Ss ih =>
    rw [List.flatten_cons, List.nodup_append] at h
    cases k with
    | zero =>
      rw [List.set_cons_zero, List.flatten_cons, List.nodup_append]
      refine ⟨hT, h.2.1, fun a ha b hb hab => ?_⟩
      subst hab
      obtain ⟨V, hV, hbV⟩ := List.mem_flatten.1 hb
      obtain ⟨i, hi⟩ := List.mem_iff_getElem?.1 hV
      exact hd (i + 1) a V (by omega) (by simpa using hi) hbV ha
    | succ k =>
      rw [List.set_cons_succ, List.flatten_cons, List.nodup_append]
      refine ⟨h.1, ih h.2.1 (fun i j V hi hV hj => hd (i + 1) j V (by omega) (by simpa using hV) hj), fun a ha b hb hab => ?_⟩
      subst hab
      rcases flatten_set_mem hb with hb | hb
      · exact h.2.2 a ha a hb rfl
      · exact hd 0 a U (by omega) (by simp) ha hb
theorem flatten_disj {Ss : List (List Nat)} (h : Ss.flatten.Nodup) {i j x : Nat} {U V : List Nat} (hij : i ≠ j) (hU : Ss[i]? = some U) (hV : Ss[j]? = some V) (hx : x ∈ U) : x ∉ V := by
  induction Ss generalizing i j with
  | nil => simp at hU
  | cons W Ss ih =>
    rw [List.flatten_cons, List.nodup_append] at h
    cases i with
    | zero =>
      cases j with
      | zero => omega
      | succ j =>
        simp at hU hV
        subst hU
        exact fun hxV => h.2.2 x hx x (List.mem_flatten.2 ⟨V, List.mem_of_getElem? hV, hxV⟩) rfl
    | succ i =>
      cases j with
      | zero =>
        simp at hU hV
        subst hV
        exact fun hxV => h.2.2 x hxV x (List.mem_flatten.2 ⟨U, List.mem_of_getElem? hU, hx⟩) rfl
      | succ j => exact ih (i := i) (j := j) h.2.1 (by omega) (by simpa using hU) (by simpa using hV)
/-- a new row is stored -/
theorem OwnRows.store (L : RowLaw R) (h : OwnRows e R w base (.slice (some ⟨g, 0, none⟩) n c) xs S) (k : Nat) {u : Value} {x : β} {T : List Nat} (hR : R w base u x T) (hd : ∀ j ∈ T, j ∉ S) :
    ∃ S', OwnRows e R (w.setCell ⟨g, k, none⟩ u) base (.slice (some ⟨g, 0, none⟩) n c) (xs.set k x) S' ∧ (∀ j ∈ S', j ∈ S ∨ j ∈ T) := by
  obtain ⟨vs, Ss, h1, h2, h3, h4, h5⟩ := h
  have hn := ownsRow_len h1
  subst hn
  have hvl : vs.length = xs.length := by simpa using h1.1
  have h5' := h5
  rw [h4, List.nodup_append] at h5'
  have hgS : g ∈ S := by rw [h4]; simp [Value.ownBlock]
  have hgF : g ∉ Ss.flatten := fun hg => h5'.2.2 g (by simp [Value.ownBlock]) g hg rfl
  have hst : ∀ j, j ≠ g → (w.setCell ⟨g, k, none⟩ u).heap[j]? = w.heap[j]? := fun j hj => Below.heap_setCell w _ _ j hj
  refine ⟨(Value.slice (some ⟨g, 0, none⟩) xs.length c).ownBlock.toList ++ (Ss.set k T).flatten, ⟨vs.set k u, Ss.set k T, ?_, by simp [h2], ?_, rfl, ?_⟩, ?_⟩
  · have := (h1.stored k u).1
    rw [List.length_set]
    exact this
  · intro j u' x' T' hu hx hT
    have hj : j < xs.length := by have := lt_of_get hx; simpa using this
    by_cases hjk : k = j
    · subst hjk
      rw [List.getElem?_set_self (by omega)] at hu hx hT
      cases hu; cases hx; cases hT
      exact L.stable hR (fun i hi => hst i (fun e => hd i hi (e ▸ hgS)))
    · rw [List.getElem?_set_ne hjk] at hu hx hT
      refine L.stable (h3 j u' x' T' hu hx hT) (fun i hi => hst i (fun e => hgF ?_))
      subst e
      exact List.mem_flatten.2 ⟨T', List.mem_of_getElem? hT, hi⟩
  · rw [List.nodup_append]
    refine ⟨h5'.1, flatten_set_nodup h5'.2.1 (L.nodup hR) (fun i j U _ hU hj hjT => hd j hjT ?_), fun a ha b hb hab => ?_⟩
    · rw [h4]; exact List.mem_append_right _ (List.mem_flatten.2 ⟨U, List.mem_of_getElem? hU, hj⟩)
    · subst hab
      simp [Value.ownBlock] at ha
      subst ha
      rcases flatten_set_mem hb with hb | hb
      · exact hgF hb
      · exact hd a hb hgS
  · intro j hj
    rcases List.mem_append.1 hj with hj | hj
    · left; rw [h4]; exact List.mem_append_left _ hj
    · rcases flatten_set_mem hj with hj | hj
      · left; rw [h4]; exact List.mem_append_right _ hj
      · exact .inr hj
/-- a row has been turned in its own blocks -/
theorem OwnRows.touch (L : RowLaw R) (h : OwnRows e R w base (.slice (some ⟨g, 0, none⟩) n c) xs S) {k : Nat} {x : β} (hx : xs[k]? = some x) :
    ∃ u T, w.cell? ⟨g, k, none⟩ = some u ∧ R w base u x T ∧ (∀ j ∈ T, j ∈ S) ∧ (∀ (x' : β) (w' : World), R w' base u x' T → Only T w w' → OwnRows e R w' base (.slice (some ⟨g, 0, none⟩) n c) (xs.set k x') S) := by
  obtain ⟨vs, Ss, h1, h2, h3, h4, h5⟩ := h
  have hk : k < xs.length := lt_of_get hx
  have hn := ownsRow_len h1
  subst hn
  have hvl : vs.length = xs.length := by simpa using h1.1
  obtain ⟨u, hu⟩ := getx vs k (by omega)
  obtain ⟨T, hT⟩ := getx Ss k (by omega)
  have h5' := h5
  rw [h4, List.nodup_append] at h5'
  have hgF : g ∉ Ss.flatten := fun hg => h5'.2.2 g (by simp [Value.ownBlock]) g hg rfl
  refine ⟨u, T, by rw [h1.cellAt (cap := c) k (by omega)]; exact hu, h3 k u x T hu hx hT, fun j hj => by rw [h4]; exact List.mem_append_right _ (List.mem_flatten.2 ⟨T, List.mem_of_getElem? hT, hj⟩), fun x' w' hR ho => ?_⟩
  have hgT : g ∉ T := fun hg => hgF (List.mem_flatten.2 ⟨T, List.mem_of_getElem? hT, hg⟩)
  refine ⟨vs, Ss, ?_, by simp [h2], ?_, h4, h5⟩
  · rw [List.length_set]
    refine ownsRow_stable h1 (fun j hj => ?_)
    simp [Value.ownBlock] at hj
    subst hj
    exact ho.block j (World.ownsRow.lt h1 j (by simp [Value.ownBlock])).2 hgT
  · intro j u' y T' hu' hy hT'
    by_cases hjk : k = j
    · subst hjk
      rw [List.getElem?_set_self (by omega)] at hy
      cases hy
      rw [hu] at hu'; cases hu'
      rw [hT] at hT'; cases hT'
      exact hR
    · rw [List.getElem?_set_ne hjk] at hy
      refine L.only (h3 j u' y T' hu' hy hT') ho (fun i hi hiT => ?_)
      exact flatten_disj h5'.2.1 hjk hT hT' hiT hi
/-- a made row of rows that hold nothing -/
theorem OwnRows.made {x0 : β} (m : Nat) (hm : m ≤ maxLen) (h0 : ∀ w base, R w base (.slice none 0 0) x0 []) (w : World) :
    OwnRows e R (w.alloc (.cells (List.replicate m (Value.slice none 0 0)).toArray e)) w.heap.size (.slice (some ⟨w.heap.size, 0, none⟩) m m) (List.replicate m x0) [w.heap.size] := by
  refine ⟨List.replicate m (Value.slice none 0 0), List.replicate m [], ?_, by simp, ?_, by simp [Value.ownBlock], by simp⟩
  · have := World.ownsRow_lit (base := w.heap.size) (e := e) (size := 1) w (List.replicate m (Value.slice none 0 0)).toArray m (Nat.le_refl _) hm (by simp)
    simpa using this
  · intro k u x T hu hx hT
    have hu' := List.mem_of_getElem? hu
    have hx' := List.mem_of_getElem? hx
    have hT' := List.mem_of_getElem? hT
    rw [List.mem_replicate] at hu' hx' hT'
    rw [hu'.2, hx'.2, hT'.2]
    exact h0 _ _
end
end Go.Proofs.Ythgbobikbdklhaa
