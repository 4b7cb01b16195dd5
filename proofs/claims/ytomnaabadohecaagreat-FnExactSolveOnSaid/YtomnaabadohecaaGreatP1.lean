/- Parts of the proof: walks of functions and plain laws. -/
import Derived.Test.YtomnaabadohecaaGreatP0
namespace Go.Proofs.YtomnaabadohecaaGreat
open Go.RowKit
/-- only the blocks of S, and new ones, have turned -/
structure Only (S : List Nat) (w w' : World) : Prop where
  os : w'.os = w.os
  tape : w'.tape = w.tape
  output : w'.output = w.output
  size : w.heap.size ≤ w'.heap.size
  block : ∀ k, k < w.heap.size → k ∉ S → w'.heap[k]? = w.heap[k]?
theorem Only.refl (S : List Nat) (w : World) : Only S w w := ⟨rfl, rfl, rfl, Nat.le_refl _, fun _ _ _ => rfl⟩
theorem Only.trans {S : List Nat} {a b c : World} (h : Only S a b) (k : Only S b c) : Only S a c :=
  ⟨k.os.trans h.os, k.tape.trans h.tape, k.output.trans h.output, Nat.le_trans h.size k.size, fun i hi hn => (k.block i (Nat.lt_of_lt_of_le hi h.size) hn).trans (h.block i hi hn)⟩
theorem Only.mono {S T : List Nat} {a b : World} (h : Only S a b) (hs : ∀ k ∈ S, k ∈ T) : Only T a b := ⟨h.os, h.tape, h.output, h.size, fun i hi hn => h.block i hi (fun e => hn (hs i e))⟩
theorem Only.below {S : List Nat} {a b : World} (h : Only S a b) (B : Nat) (hB : B ≤ a.heap.size) (hs : ∀ k ∈ S, B ≤ k) : Below B a b := ⟨h.os, h.tape, h.output, h.size, fun i hi => h.block i (by omega) (fun e => by have := hs i e; omega)⟩
theorem Only.of_below {S : List Nat} {a b : World} (h : Below a.heap.size a b) : Only S a b := ⟨h.os, h.tape, h.output, h.size, fun i hi _ => h.block i hi⟩
theorem Only.of_grown {a b : World} {row : Option Nat} (h : a.grownBy b row) : Only row.toList a b := ⟨h.os, h.tape, h.output, h.size, fun i hi hn => h.block i hi (fun e => hn (by rw [← e]; simp))⟩
theorem Only.grown {a b : World} {row : Option Nat} (h : Only row.toList a b) : a.grownBy b row := ⟨h.os, h.tape, h.output, h.size, fun i hi hn => h.block i hi (fun e => hn (by cases row <;> simp at e; rw [e]))⟩
theorem Only.drewN {S : List Nat} {a b : World} (h : Only S a b) (n : Nat) : Only S a (b.drewN n) := ⟨h.os, h.tape, h.output, h.size, h.block⟩
theorem Only.cell {S : List Nat} {a b : World} (h : Only S a b) {p : Addr} {u : Value} (hp : p.block ∉ S) (hc : a.cell? p = some u) : b.cell? p = some u :=
  (World.cell?_of_block (h.block p.block (World.block_lt_of_cell? a _ hc) hp)).trans hc
theorem Only.setCell {S : List Nat} {a w : World} (h : Only S a w) {p : Addr} (hp : p.block ∈ S ∨ a.heap.size ≤ p.block) (u : Value) : Only S a (w.setCell p u) :=
  ⟨h.os, h.tape, h.output, by simpa [World.setCell] using h.size, fun i hi hn => (Below.heap_setCell w p u i (by
    rintro rfl
    rcases hp with hp | hp
    · exact hn hp
    · omega)).trans (h.block i hi hn)⟩
theorem Only.alloc {S : List Nat} {a w : World} (h : Only S a w) (o : Obj) : Only S a (w.alloc o) := ⟨h.os, h.tape, h.output, Nat.le_trans h.size (by simp), fun i hi hn => (Below.heap_alloc w o i (Nat.lt_of_lt_of_le hi h.size)).trans (h.block i hi hn)⟩

/-- a way to own data: R w base v x S: v owns x, in the blocks S -/
structure RowLaw {β : Type} (R : World → Nat → Value → β → List Nat → Prop) : Prop where
  stable : ∀ {w w' : World} {base : Nat} {v : Value} {x : β} {S : List Nat}, R w base v x S → (∀ k ∈ S, w'.heap[k]? = w.heap[k]?) → R w' base v x S
  range : ∀ {w : World} {base : Nat} {v : Value} {x : β} {S : List Nat}, R w base v x S → ∀ k ∈ S, base ≤ k ∧ k < w.heap.size
  nodup : ∀ {w : World} {base : Nat} {v : Value} {x : β} {S : List Nat}, R w base v x S → S.Nodup
  mono : ∀ {w : World} {base base' : Nat} {v : Value} {x : β} {S : List Nat}, R w base v x S → base' ≤ base → R w base' v x S
  one : ∀ {w : World} {base : Nat} {v : Value} {x : β} {S : List Nat}, R w base v x S → ∃ A n c, v = .slice A n c

section
variable {β : Type} {R : World → Nat → Value → β → List Nat → Prop}
theorem RowLaw.keep (L : RowLaw R) {w w' : World} {base : Nat} {v : Value} {x : β} {S : List Nat} (h : R w base v x S) (hb : Below w.heap.size w w') : R w' base v x S := L.stable h fun k hk => hb.block k (L.range h k hk).2
theorem RowLaw.only (L : RowLaw R) {w w' : World} {base : Nat} {v : Value} {x : β} {S T : List Nat} (h : R w base v x S) (hb : Only T w w') (hd : ∀ k ∈ S, k ∉ T) : R w' base v x S := L.stable h fun k hk => hb.block k (L.range h k hk).2 (hd k hk)
end

/-- a row whose elements take size cells each -/
def LeafR {α : Type} (e : TypeId) (size : Nat) (enc : α → List Value) (w : World) (base : Nat) (v : Value) (xs : List α) (S : List Nat) : Prop :=
  w.ownsRow base e size v xs.length (xs.flatMap enc) ∧ S = v.ownBlock.toList

theorem ownsRow_stable {w w' : World} {base : Nat} {e : TypeId} {size : Nat} {v : Value} {n : Nat} {xs : List Value} (h : w.ownsRow base e size v n xs) (hs : ∀ k ∈ v.ownBlock.toList, w'.heap[k]? = w.heap[k]?) : w'.ownsRow base e size v n xs := by
  refine ⟨h.1, h.2.imp id ?_⟩
  rintro ⟨g, cap, cur, rfl, h2, h3, h4⟩
  exact ⟨g, cap, cur, rfl, h2, (hs g (by simp [Value.ownBlock])).trans h3, h4⟩
theorem ownsRow_mono {w : World} {base base' : Nat} {e : TypeId} {size : Nat} {v : Value} {n : Nat} {xs : List Value} (h : w.ownsRow base e size v n xs) (hb : base' ≤ base) : w.ownsRow base' e size v n xs :=
  ⟨h.1, h.2.imp id fun ⟨g, cap, cur, h1, h2, h3⟩ => ⟨g, cap, cur, h1, Nat.le_trans hb h2, h3⟩⟩
theorem ownsRow_one {w : World} {base : Nat} {e : TypeId} {size : Nat} {v : Value} {n : Nat} {xs : List Value} (h : w.ownsRow base e size v n xs) : ∃ A m c, v = .slice A m c := by
  rcases h.2 with ⟨rfl, _⟩ | ⟨g, cap, cur, rfl, _⟩
  · exact ⟨_, _, _, rfl⟩
  · exact ⟨_, _, _, rfl⟩
theorem leaf_law {α : Type} (e : TypeId) (size : Nat) (enc : α → List Value) : RowLaw (LeafR (α := α) e size enc) where
  stable := fun ⟨h, hS⟩ hs => ⟨ownsRow_stable h (fun k hk => hs k (by rw [hS]; exact hk)), hS⟩
  range := fun ⟨h, hS⟩ k hk => World.ownsRow.lt h k (by rw [hS] at hk; simpa using hk)
  nodup := fun {_ _ v _ _} ⟨_, hS⟩ => by rw [hS]; cases v.ownBlock <;> simp
  mono := fun ⟨h, hS⟩ hb => ⟨ownsRow_mono h hb, hS⟩
  one := fun ⟨h, _⟩ => ownsRow_one h

/-- a row of rows -/
def OwnRows {β : Type} (e : TypeId) (R : World → Nat → Value → β → List Nat → Prop) (w : World) (base : Nat) (v : Value) (xs : List β) (S : List Nat) : Prop :=
  ∃ (vs : List Value) (Ss : List (List Nat)), w.ownsRow base e 1 v xs.length vs ∧ Ss.length = xs.length ∧
    (∀ (k : Nat) u x T, vs[k]? = some u → xs[k]? = some x → Ss[k]? = some T → R w base u x T) ∧ S = v.ownBlock.toList ++ Ss.flatten ∧ S.Nodup

theorem rows_law {β : Type} {R : World → Nat → Value → β → List Nat → Prop} (e : TypeId) (L : RowLaw R) : RowLaw (OwnRows e R) where
  stable := fun {w w' base v xs S} h hs => by
    obtain ⟨vs, Ss, h1, h2, h3, h4, h5⟩ := h
    refine ⟨vs, Ss, ownsRow_stable h1 (fun k hk => hs k (by rw [h4]; simp [hk])), h2, fun k u x T hu hx hT => L.stable (h3 k u x T hu hx hT) (fun j hj => hs j ?_), h4, h5⟩
    rw [h4]
    exact List.mem_append_right _ (List.mem_flatten.2 ⟨T, List.mem_of_getElem? hT, hj⟩)
  range := fun {w base v xs S} h k hk => by
    obtain ⟨vs, Ss, h1, h2, h3, h4, h5⟩ := h
    rw [h4] at hk
    rcases List.mem_append.1 hk with hk | hk
    · exact World.ownsRow.lt h1 k (by simpa using hk)
    · obtain ⟨T, hT, hkT⟩ := List.mem_flatten.1 hk
      obtain ⟨j, hj⟩ := List.mem_iff_getElem?.1 hT
      have hlt : j < Ss.length := lt_of_get hj
      have hvl : vs.length = xs.length := by simpa using h1.1
      obtain ⟨u, hu⟩ := getx vs j (by omega)
      obtain ⟨x, hx⟩ := getx xs j (by omega)
      exact L.range (h3 j u x T hu hx hj) k hkT
  nodup := fun ⟨_, _, _, _, _, _, h5⟩ => h5
  mono := fun {w base base' v xs S} h hb => by
    obtain ⟨vs, Ss, h1, h2, h3, h4, h5⟩ := h
    exact ⟨vs, Ss, ownsRow_mono h1 hb, h2, fun k u x T hu hx hT => L.mono (h3 k u x T hu hx hT) hb, h4, h5⟩
  one := fun ⟨_, _, h1, _⟩ => ownsRow_one h1

section
variable {β : Type} {R : World → Nat → Value → β → List Nat → Prop} {e : TypeId} {w : World} {base g c n : Nat} {xs : List β} {S : List Nat}
theorem ownsRow_len {e : TypeId} {size : Nat} {m : Nat} {ys : List Value} (h : w.ownsRow base e size (.slice (some ⟨g, 0, none⟩) n c) m ys) : m = n := by
  rcases h.2 with ⟨h', _⟩ | ⟨g', cap', cur, h', _⟩
  · simp at h'
  · simp only [Value.slice.injEq] at h'
    exact h'.2.1.symm
theorem ownsRow_free {e : TypeId} {size : Nat} {m : Nat} {ys : List Value} (h : w.ownsRow base e size (.slice (some ⟨g, 0, none⟩) n c) m ys) (k : Nat) : w.frozen? ⟨g, k, none⟩ = false := by
  obtain rfl := ownsRow_len h
  exact h.frozenAt k
theorem ownsRow_cases {e : TypeId} {size : Nat} {m : Nat} {ys : List Value} {v : Value} (h : w.ownsRow base e size v m ys) : (v = .slice none 0 0 ∧ m = 0) ∨ ∃ g c, v = .slice (some ⟨g, 0, none⟩) m c ∧ base ≤ g ∧ g < w.heap.size ∧ m ≤ c ∧ c ≤ maxLen := by
  rcases h.2 with h | ⟨g, cap, cur, rfl, hb, hg, hnc, hm, hcs, htake⟩
  · exact .inl h
  · exact .inr ⟨g, cap, rfl, hb, (Array.getElem?_eq_some_iff.1 hg).1, hnc, hm⟩
/-- the k-th row -/
theorem OwnRows.at_ (h : OwnRows e R w base (.slice (some ⟨g, 0, none⟩) n c) xs S) {k : Nat} {x : β} (hx : xs[k]? = some x) : ∃ u T, w.cell? ⟨g, k, none⟩ = some u ∧ w.frozen? ⟨g, k, none⟩ = false ∧ R w base u x T ∧ (∀ j ∈ T, j ∈ S) ∧ g ∉ T ∧ g ∈ S := by
  obtain ⟨vs, Ss, h1, h2, h3, h4, h5⟩ := h
  have hk : k < xs.length := lt_of_get hx
  have hn := ownsRow_len h1
  have hvl : vs.length = xs.length := by simpa using h1.1
  obtain ⟨u, hu⟩ := getx vs k (by omega)
  obtain ⟨T, hT⟩ := getx Ss k (by omega)
  subst hn
  refine ⟨u, T, ?_, h1.frozenAt k, h3 k u x T hu hx hT, fun j hj => ?_, fun hg => ?_, ?_⟩
  · rw [h1.cellAt (cap := c) k (by omega)]; exact hu
  · rw [h4]; exact List.mem_append_right _ (List.mem_flatten.2 ⟨T, List.mem_of_getElem? hT, hj⟩)
  · rw [h4] at h5
    have := (List.nodup_append.1 h5).2.2 g (by simp [Value.ownBlock]) g (List.mem_flatten.2 ⟨T, List.mem_of_getElem? hT, hg⟩)
    exact this rfl
  · rw [h4]; simp [Value.ownBlock]
theorem flatten_set_mem {Ss : List (List Nat)} {k j : Nat} {T : List Nat} (h : j ∈ (Ss.set k T).flatten) : j ∈ Ss.flatten ∨ j ∈ T := by
  obtain ⟨U, hU, hj⟩ := List.mem_flatten.1 h
  rcases List.mem_or_eq_of_mem_set hU with h1 | h1
  · exact .inl (List.mem_flatten.2 ⟨U, h1, hj⟩)
  · subst h1; exact .inr hj
theorem flatten_set_nodup {Ss : List (List Nat)} {k : Nat} {T : List Nat} (h : Ss.flatten.Nodup) (hT : T.Nodup) (hd : ∀ i j U, i ≠ k → Ss[i]? = some U → j ∈ U → j ∉ T) : (Ss.set k T).flatten.Nodup := by
  induction Ss generalizing k with
  | nil => simp
  | cons U Ss ih =>
    rw [List.flatten_cons, List.nodup_append] at h
    cases k with
    | zero =>
      rw [List.set_cons_zero, List.flatten_cons, List.nodup_append]
      refine ⟨hT, h.2.1, fun a ha b hb hab => ?_⟩
      subst hab
      obtain ⟨V, hV, hbV⟩ := List.mem_flatten.1 hb
      obtain ⟨i, hi⟩ := List.mem_iff_getElem?.1 hV
      exact hd (i + 1) a V (by omega) (by simpa using hi) hbV ha
    | succ k =>
      rw [List.set_cons_succ, List.flatten_cons, List.nodup_append]
      refine ⟨h.1, ih h.2.1 (fun i j V hi hV hj => hd (i + 1) j V (by omega) (by simpa using hV) hj), fun a ha b hb hab => ?_⟩
      subst hab
      rcases flatten_set_mem hb with hb | hb
      · exact h.2.2 a ha a hb rfl
      · exact hd 0 a U (by omega) (by simp) ha hb
theorem flatten_disj {Ss : List (List Nat)} (h : Ss.flatten.Nodup) {i j x : Nat} {U V : List Nat} (hij : i ≠ j) (hU : Ss[i]? = some U) (hV : Ss[j]? = some V) (hx : x ∈ U) : x ∉ V := by
  induction Ss generalizing i j with
  | nil => simp at hU
  | cons W Ss ih =>
    rw [List.flatten_cons, List.nodup_append] at h
    cases i with
    | zero =>
      cases j with
      | zero => omega
      | succ j =>
        simp at hU hV
        subst hU
        exact fun hxV => h.2.2 x hx x (List.mem_flatten.2 ⟨V, List.mem_of_getElem? hV, hxV⟩) rfl
    | succ i =>
      cases j with
      | zero =>
        simp at hU hV
        subst hV
        exact fun hxV => h.2.2 x hxV x (List.mem_flatten.2 ⟨U, List.mem_of_getElem? hU, hx⟩) rfl
      | succ j => exact ih (i := i) (j := j) h.2.1 (by omega) (by simpa using hU) (by simpa using hV)
/-- a new row is stored -/
theorem OwnRows.store (L : RowLaw R) (h : OwnRows e R w base (.slice (some ⟨g, 0, none⟩) n c) xs S) (k : Nat) {u : Value} {x : β} {T : List Nat} (hR : R w base u x T) (hd : ∀ j ∈ T, j ∉ S) :
    ∃ S', OwnRows e R (w.setCell ⟨g, k, none⟩ u) base (.slice (some ⟨g, 0, none⟩) n c) (xs.set k x) S' ∧ (∀ j ∈ S', j ∈ S ∨ j ∈ T) := by
  obtain ⟨vs, Ss, h1, h2, h3, h4, h5⟩ := h
  have hn := ownsRow_len h1
  subst hn
  have hvl : vs.length = xs.length := by simpa using h1.1
  have h5' := h5
  rw [h4, List.nodup_append] at h5'
  have hgS : g ∈ S := by rw [h4]; simp [Value.ownBlock]
  have hgF : g ∉ Ss.flatten := fun hg => h5'.2.2 g (by simp [Value.ownBlock]) g hg rfl
  have hst : ∀ j, j ≠ g → (w.setCell ⟨g, k, none⟩ u).heap[j]? = w.heap[j]? := fun j hj => Below.heap_setCell w _ _ j hj
  refine ⟨(Value.slice (some ⟨g, 0, none⟩) xs.length c).ownBlock.toList ++ (Ss.set k T).flatten, ⟨vs.set k u, Ss.set k T, ?_, by simp [h2], ?_, rfl, ?_⟩, ?_⟩
  · have := (h1.stored k u).1
    rw [List.length_set]
    exact this
  · intro j u' x' T' hu hx hT
    have hj : j < xs.length := by have := lt_of_get hx; simpa using this
    by_cases hjk : k = j
    · subst hjk
      rw [List.getElem?_set_self (by omega)] at hu hx hT
      cases hu; cases hx; cases hT
      exact L.stable hR (fun i hi => hst i (fun e => hd i hi (e ▸ hgS)))
    · rw [List.getElem?_set_ne hjk] at hu hx hT
      refine L.stable (h3 j u' x' T' hu hx hT) (fun i hi => hst i (fun e => hgF ?_))
      subst e
      exact List.mem_flatten.2 ⟨T', List.mem_of_getElem? hT, hi⟩
  · rw [List.nodup_append]
    refine ⟨h5'.1, flatten_set_nodup h5'.2.1 (L.nodup hR) (fun i j U _ hU hj hjT => hd j hjT ?_), fun a ha b hb hab => ?_⟩
    · rw [h4]; exact List.mem_append_right _ (List.mem_flatten.2 ⟨U, List.mem_of_getElem? hU, hj⟩)
    · subst hab
      simp [Value.ownBlock] at ha
      subst ha
      rcases flatten_set_mem hb with hb | hb
      · exact hgF hb
      · exact hd a hb hgS
  · intro j hj
    rcases List.mem_append.1 hj with hj | hj
    · left; rw [h4]; exact List.mem_append_left _ hj
    · rcases flatten_set_mem hj with hj | hj
      · left; rw [h4]; exact List.mem_append_right _ hj
      · exact .inr hj
/-- a row has been turned in its own blocks -/
theorem OwnRows.touch (L : RowLaw R) (h : OwnRows e R w base (.slice (some ⟨g, 0, none⟩) n c) xs S) {k : Nat} {x : β} (hx : xs[k]? = some x) :
    ∃ u T, w.cell? ⟨g, k, none⟩ = some u ∧ R w base u x T ∧ (∀ j ∈ T, j ∈ S) ∧ (∀ (x' : β) (w' : World), R w' base u x' T → Only T w w' → OwnRows e R w' base (.slice (some ⟨g, 0, none⟩) n c) (xs.set k x') S) := by
  obtain ⟨vs, Ss, h1, h2, h3, h4, h5⟩ := h
  have hk : k < xs.length := lt_of_get hx
  have hn := ownsRow_len h1
  subst hn
  have hvl : vs.length = xs.length := by simpa using h1.1
  obtain ⟨u, hu⟩ := getx vs k (by omega)
  obtain ⟨T, hT⟩ := getx Ss k (by omega)
  have h5' := h5
  rw [h4, List.nodup_append] at h5'
  have hgF : g ∉ Ss.flatten := fun hg => h5'.2.2 g (by simp [Value.ownBlock]) g hg rfl
  refine ⟨u, T, by rw [h1.cellAt (cap := c) k (by omega)]; exact hu, h3 k u x T hu hx hT, fun j hj => by rw [h4]; exact List.mem_append_right _ (List.mem_flatten.2 ⟨T, List.mem_of_getElem? hT, hj⟩), fun x' w' hR ho => ?_⟩
  have hgT : g ∉ T := fun hg => hgF (List.mem_flatten.2 ⟨T, List.mem_of_getElem? hT, hg⟩)
  refine ⟨vs, Ss, ?_, by simp [h2], ?_, h4, h5⟩
  · rw [List.length_set]
    refine ownsRow_stable h1 (fun j hj => ?_)
    simp [Value.ownBlock] at hj
    subst hj
    exact ho.block j (World.ownsRow.lt h1 j (by simp [Value.ownBlock])).2 hgT
  · intro j u' y T' hu' hy hT'
    by_cases hjk : k = j
    · subst hjk
      rw [List.getElem?_set_self (by omega)] at hy
      cases hy
      rw [hu] at hu'; cases hu'
      rw [hT] at hT'; cases hT'
      exact hR
    · rw [List.getElem?_set_ne hjk] at hy
      refine L.only (h3 j u' y T' hu' hy hT') ho (fun i hi hiT => ?_)
      exact flatten_disj h5'.2.1 hjk hT hT' hiT hi
/-- a made row of rows that hold nothing -/
theorem OwnRows.made {x0 : β} (m : Nat) (hm : m ≤ maxLen) (h0 : ∀ w base, R w base (.slice none 0 0) x0 []) (w : World) :
    OwnRows e R (w.alloc (.cells (List.replicate m (Value.slice none 0 0)).toArray e)) w.heap.size (.slice (some ⟨w.heap.size, 0, none⟩) m m) (List.replicate m x0) [w.heap.size] := by
  refine ⟨List.replicate m (Value.slice none 0 0), List.replicate m [], ?_, by simp, ?_, by simp [Value.ownBlock], by simp⟩
  · have := World.ownsRow_lit (base := w.heap.size) (e := e) (size := 1) w (List.replicate m (Value.slice none 0 0)).toArray m (Nat.le_refl _) hm (by simp)
    simpa using this
  · intro k u x T hu hx hT
    have hu' := List.mem_of_getElem? hu
    have hx' := List.mem_of_getElem? hx
    have hT' := List.mem_of_getElem? hT
    rw [List.mem_replicate] at hu' hx' hT'
    rw [hu'.2, hx'.2, hT'.2]
    exact h0 _ _
end
end Go.Proofs.YtomnaabadohecaaGreat
namespace Go.Proofs.YtomnaabadohecaaGreat
open Go.RowKit
def encE (e : Int × Int) : List Value := [.int .i64 e.1, .int .i64 e.2]
/-- a row of ends -/
def OwnE : World → Nat → Value → List (Int × Int) → List Nat → Prop := LeafR 114 2 encE
theorem lawE : RowLaw OwnE := leaf_law _ _ _
/-- a row of rows of ends -/
def OwnEE : World → Nat → Value → List (List (Int × Int)) → List Nat → Prop := OwnRows 112 OwnE
theorem lawEE : RowLaw OwnEE := rows_law _ lawE
/-- integers, with their block -/
def OwnI (w : World) (base : Nat) (v : Value) (xs : List Int) (S : List Nat) : Prop := Own w base v xs ∧ S = v.ownBlock.toList
theorem lawI : RowLaw OwnI where
  stable := fun ⟨h, hS⟩ hs => ⟨ownsRow_stable h (fun k hk => hs k (by rw [hS]; exact hk)), hS⟩
  range := fun ⟨h, hS⟩ k hk => World.ownsRow.lt h k (by rw [hS] at hk; simpa using hk)
  nodup := fun {_ _ v _ _} ⟨_, hS⟩ => by rw [hS]; cases v.ownBlock <;> simp
  mono := fun ⟨h, hS⟩ hb => ⟨ownsRow_mono h hb, hS⟩
  one := fun ⟨h, _⟩ => ownsRow_one h
theorem encE_get {es : List (Int × Int)} {k : Nat} {x : Int × Int} (h : es[k]? = some x) : (es.flatMap encE)[k * 2]? = some (.int .i64 x.1) ∧ (es.flatMap encE)[k * 2 + 1]? = some (.int .i64 x.2) := by
  induction es generalizing k with
  | nil => simp at h
  | cons e es ih =>
    cases k with
    | zero => simp at h; subst h; simp [encE]
    | succ k =>
      have := ih (k := k) (by simpa using h)
      rw [List.flatMap_cons, show (k + 1) * 2 = k * 2 + 2 by omega]
      simp only [encE, List.cons_append, List.nil_append]
      exact ⟨by simpa using this.1, by rw [show k * 2 + 2 + 1 = (k * 2 + 1) + 1 + 1 by omega]; simpa using this.2⟩
theorem encE_set {es : List (Int × Int)} {k : Nat} (x : Int × Int) (h : k < es.length) : ((es.flatMap encE).set (k * 2) (.int .i64 x.1)).set (k * 2 + 1) (.int .i64 x.2) = (es.set k x).flatMap encE := by
  induction es generalizing k with
  | nil => simp at h
  | cons e es ih =>
    cases k with
    | zero => simp [encE]
    | succ k =>
      have := ih (k := k) (by simpa using h)
      rw [List.flatMap_cons, show (k + 1) * 2 = k * 2 + 1 + 1 by omega]
      simp only [encE, List.cons_append, List.nil_append, List.set_cons_succ, List.flatMap_cons] at this ⊢
      rw [this]
theorem encE_len (es : List (Int × Int)) : (es.flatMap encE).length = es.length * 2 := by
  induction es with
  | nil => rfl
  | cons e es ih => rw [List.flatMap_cons, List.length_append, ih, List.length_cons]; simp [encE]; omega
theorem OwnE.read {w : World} {base : Nat} {v : Value} {es : List (Int × Int)} {S : List Nat} (h : OwnE w base v es S) : EndS w v es := by
  obtain ⟨h, hS⟩ := h
  rcases ownsRow_cases h with ⟨rfl, h0⟩ | ⟨g, c, rfl, hb, hg, hc, hm⟩
  · obtain rfl : es = [] := List.eq_nil_of_length_eq_zero h0
    exact ⟨none, 0, rfl, Nat.le_refl _, Nat.zero_le _, fun k x hk => by simp at hk⟩
  · refine ⟨_, c, rfl, hc, hm, fun k x hk => ⟨g, 0, rfl, ?_, ?_⟩⟩
    · have := lt_of_get hk
      rw [Nat.zero_add, h.cellAt (cap := c) _ (by omega)]; exact (encE_get hk).1
    · have := lt_of_get hk
      rw [Nat.zero_add, h.cellAt (cap := c) _ (by omega)]; exact (encE_get hk).2
theorem OwnEE.read {w : World} {base : Nat} {v : Value} {ess : List (List (Int × Int))} {S : List Nat} (h : OwnEE w base v ess S) : EndSS w v ess := by
  obtain ⟨vs, Ss, h1, h2, h3, h4, h5⟩ := h
  rcases ownsRow_cases h1 with ⟨rfl, h0⟩ | ⟨g, c, rfl, hb, hg, hc, hm⟩
  · obtain rfl : ess = [] := List.eq_nil_of_length_eq_zero h0
    exact ⟨none, 0, rfl, Nat.le_refl _, Nat.zero_le _, fun k x hk => by simp at hk⟩
  · have hvl : vs.length = ess.length := by simpa using h1.1
    refine ⟨_, c, rfl, hc, hm, fun k x hk => ?_⟩
    have hlt := lt_of_get hk
    obtain ⟨u, hu⟩ := getx vs k (by omega)
    obtain ⟨T, hT⟩ := getx Ss k (by omega)
    exact ⟨g, 0, u, rfl, by rw [Nat.zero_add, h1.cellAt (cap := c) _ (by omega)]; exact hu, OwnE.read (h3 k u x T hu hk hT)⟩
/-- the marks of a row of ends -/
def mkE (k m : Nat) : List (Int × Int) := (List.range m).map fun i => (((k + 2 * i : Nat) : Int), ((k + 2 * i + 1 : Nat) : Int))
theorem mkE_len (k m : Nat) : (mkE k m).length = m := by simp [mkE]
theorem mkE_get {k m j : Nat} (h : j < m) : (mkE k m)[j]? = some (((k + 2 * j : Nat) : Int), ((k + 2 * j + 1 : Nat) : Int)) := by simp [mkE, h]
theorem mkE_set (es : List (Int × Int)) (k j : Nat) (h : j < es.length) : (mkE k j ++ es.drop j).set j (((k + 2 * j : Nat) : Int), ((k + 2 * j + 1 : Nat) : Int)) = mkE k (j + 1) ++ es.drop (j + 1) := by
  have hl := mkE_len k j
  rw [List.set_append_right _ _ (by omega), hl, Nat.sub_self, List.drop_eq_getElem_cons h, List.set_cons_zero]
  rw [show mkE k (j + 1) = mkE k j ++ [(((k + 2 * j : Nat) : Int), ((k + 2 * j + 1 : Nat) : Int))] by simp [mkE, List.range_succ], List.append_assoc]
  rfl
/-- the marks of rows of ends -/
def mkEE : Nat → List (List (Int × Int)) → List (List (Int × Int))
  | _, [] => []
  | k, es :: r => mkE k es.length :: mkEE (k + 2 * es.length) r
def cntEE : List (List (Int × Int)) → Nat
  | [] => 0
  | es :: r => 2 * es.length + cntEE r
theorem mkEE_append (k : Nat) (a b : List (List (Int × Int))) : mkEE k (a ++ b) = mkEE k a ++ mkEE (k + cntEE a) b := by
  induction a generalizing k with
  | nil => simp [mkEE, cntEE]
  | cons x a ih => simp [mkEE, cntEE, ih, Nat.add_assoc]
theorem cntEE_append (a b : List (List (Int × Int))) : cntEE (a ++ b) = cntEE a + cntEE b := by
  induction a with
  | nil => simp [cntEE]
  | cons x a ih => simp [cntEE, ih]; omega
theorem mkEE_len (k : Nat) (a : List (List (Int × Int))) : (mkEE k a).length = a.length := by
  induction a generalizing k with
  | nil => rfl
  | cons x a ih => simp [mkEE, ih]
theorem cntEE_take (a : List (List (Int × Int))) (k : Nat) : cntEE (a.take k) ≤ cntEE a := by
  rw [show cntEE a = cntEE (a.take k ++ a.drop k) by rw [List.take_append_drop], cntEE_append]; omega
end Go.Proofs.YtomnaabadohecaaGreat
namespace Go.Proofs.YtomnaabadohecaaGreat
open Go.RowKit
theorem OwnE.cells {w : World} {base g c n : Nat} {es : List (Int × Int)} {S : List Nat} (h : OwnE w base (.slice (some ⟨g, 0, none⟩) n c) es S) {k : Nat} {x : Int × Int} (hx : es[k]? = some x) :
    w.cell? ⟨g, k * 2, none⟩ = some (.int .i64 x.1) ∧ w.cell? ⟨g, k * 2 + 1, none⟩ = some (.int .i64 x.2) ∧ w.frozen? ⟨g, k * 2, none⟩ = false ∧ w.frozen? ⟨g, k * 2 + 1, none⟩ = false := by
  obtain ⟨h, _⟩ := h
  have hn := ownsRow_len h
  subst hn
  have := lt_of_get hx
  exact ⟨by rw [h.cellAt (cap := c) _ (by omega)]; exact (encE_get hx).1, by rw [h.cellAt (cap := c) _ (by omega)]; exact (encE_get hx).2, h.frozenAt _, h.frozenAt _⟩
theorem OwnE.set {w : World} {base g c n : Nat} {es : List (Int × Int)} {S : List Nat} (h : OwnE w base (.slice (some ⟨g, 0, none⟩) n c) es S) {k : Nat} (hk : k < es.length) (x : Int × Int) :
    OwnE ((w.setCell ⟨g, k * 2, none⟩ (.int .i64 x.1)).setCell ⟨g, k * 2 + 1, none⟩ (.int .i64 x.2)) base (.slice (some ⟨g, 0, none⟩) n c) (es.set k x) S := by
  obtain ⟨h, hS⟩ := h
  have hn := ownsRow_len h
  subst hn
  have h1 := (h.stored (k * 2) (.int .i64 x.1)).1
  have h2 := (h1.stored (k * 2 + 1) (.int .i64 x.2)).1
  rw [encE_set x hk] at h2
  refine ⟨?_, hS⟩
  rw [List.length_set]
  exact h2
theorem OwnE.len {w : World} {base : Nat} {A : Option Addr} {n c : Nat} {es : List (Int × Int)} {S : List Nat} (h : OwnE w base (.slice A n c) es S) : n = es.length := by
  rcases ownsRow_cases h.1 with ⟨h1, h0⟩ | ⟨g, c, h1, _⟩
  · cases h1; omega
  · cases h1; rfl
theorem OwnEE.len {w : World} {base : Nat} {A : Option Addr} {n c : Nat} {es : List (List (Int × Int))} {S : List Nat} (h : OwnEE w base (.slice A n c) es S) : n = es.length := by
  obtain ⟨vs, Ss, h1, _⟩ := h
  rcases ownsRow_cases h1 with ⟨h1, h0⟩ | ⟨g, c, h1, _⟩
  · cases h1; omega
  · cases h1; rfl
set_option maxHeartbeats 400000 in
theorem markEndS_any (v : Value) (es : List (Int × Int)) (k : Nat) (w : World) (base : Nat) (S : List Nat) (h : OwnE w base v es S) (hl : k + 2 * es.length ≤ 4611686018427387904) :
    Calls Tryz.prog 137 #[v, .int .i64 k] w fun e w' => e = .returned (.int .i64 ((k + 2 * es.length : Nat) : Int)) ∧ OwnE w' base v (mkE k es.length) S ∧ Only S w w' := by
  rcases ownsRow_cases h.1 with ⟨rfl, h0⟩ | ⟨g, c, rfl, hb1, hb2, hb3, hb4⟩
  · obtain rfl : es = [] := List.eq_nil_of_length_eq_zero h0
    go_enter Tryz.func137, Tryz.ntmps137
    go_wp2
    go_loop [1, 5] (fun m i => m = .int .i64 k ∧ i = .int .i64 0) (fun _ _ => 0)
    case atStart => exact ⟨rfl, rfl⟩
    case round =>
      obtain ⟨rfl, rfl⟩ := hrel
      go_wp2
      go_ret
      exact ⟨ret_int (by simp), h, Only.refl _ _⟩
  · have hgS : g ∈ S := by rw [h.2]; simp [Value.ownBlock]
    have Ho := Lib.hid h
    have HgS := Lib.hid hgS
    clear h hgS
    unfold maxLen at hb4
    go_enter Tryz.func137, Tryz.ntmps137
    go_wp2
    go_loopw [1, 5] (fun m i wr => ∃ j : Nat, j ≤ es.length ∧ i = .int .i64 j ∧ m = .int .i64 ((k + 2 * j : Nat) : Int) ∧ OwnE wr base (.slice (some ⟨g, 0, none⟩) es.length c) (mkE k j ++ es.drop j) S ∧ Only S w wr) (fun _ i _ => es.length - (intOf i).toNat)
    case atStart => exact ⟨0, Nat.zero_le _, rfl, rfl, by simpa [mkE] using Ho.out, Only.refl _ _⟩
    case round =>
      obtain ⟨j, hj, rfl, rfl, ho, hg⟩ := hrel
      by_cases hlt : j < es.length
      · obtain ⟨y, hy⟩ := getx (mkE k j ++ es.drop j) j (by simp [mkE_len]; omega)
        obtain ⟨c1, c2, f1, f2⟩ := ho.cells hy
        have Ho1 := Lib.hid ho
        have Hg := Lib.hid hg
        clear hy ho hg
        go_wp2
        go_roundw
        case rel =>
          refine ⟨j + 1, by omega, by go_num, by go_num, ?_, (Hg.out.setCell (.inl HgS.out) _).setCell (.inl HgS.out) _⟩
          have := Ho1.out.set (k := j) (by simp [mkE_len]; omega) (((k + 2 * j : Nat) : Int), ((k + 2 * j + 1 : Nat) : Int))
          rw [mkE_set _ _ _ hlt] at this
          simpa using this
        case measure => simp [intOf]; omega
      · obtain rfl : j = es.length := by omega
        have Ho1 := Lib.hid ho
        have Hg := Lib.hid hg
        clear ho hg
        go_wp2
        go_ret
        exact ⟨ret_int (by simp), by have := Ho1.out; rwa [List.drop_length, List.append_nil] at this, Hg.out⟩
theorem mkEE_set (a ess : List (List (Int × Int))) (j : Nat) (y : List (Int × Int)) (hl : a.length = j) (h : j < ess.length) : (a ++ ess.drop j).set j y = (a ++ [y]) ++ ess.drop (j + 1) := by
  rw [List.set_append_right _ _ (by omega), hl, Nat.sub_self, List.drop_eq_getElem_cons h, List.set_cons_zero, List.append_assoc]
  rfl
set_option maxHeartbeats 400000 in
theorem markEndSS_any (v : Value) (ess : List (List (Int × Int))) (k : Nat) (w : World) (base : Nat) (S : List Nat) (h : OwnEE w base v ess S) (hl : k + cntEE ess ≤ 4611686018427387904) :
    Calls Tryz.prog 75 #[v, .int .i64 k] w fun e w' => e = .returned (.int .i64 ((k + cntEE ess : Nat) : Int)) ∧ OwnEE w' base v (mkEE k ess) S ∧ Only S w w' := by
  rcases (show _ ∨ _ by obtain ⟨vs, Ss, h1, _⟩ := h; exact ownsRow_cases h1) with ⟨rfl, h0⟩ | ⟨g, c, rfl, hb1, hb2, hb3, hb4⟩
  · obtain rfl : ess = [] := List.eq_nil_of_length_eq_zero h0
    go_enter Tryz.func75, Tryz.ntmps75
    go_wp2
    go_loop [1, 5] (fun m i => m = .int .i64 k ∧ i = .int .i64 0) (fun _ _ => 0)
    case atStart => exact ⟨rfl, rfl⟩
    case round =>
      obtain ⟨rfl, rfl⟩ := hrel
      go_wp2
      go_ret
      exact ⟨ret_int (by simp [cntEE]), h, Only.refl _ _⟩
  · have Ho := Lib.hid h
    clear h
    unfold maxLen at hb4
    go_enter Tryz.func75, Tryz.ntmps75
    go_wp2
    go_loopw [1, 5] (fun m i wr => ∃ j : Nat, j ≤ ess.length ∧ i = .int .i64 j ∧ m = .int .i64 ((k + cntEE (ess.take j) : Nat) : Int) ∧ OwnEE wr base (.slice (some ⟨g, 0, none⟩) ess.length c) (mkEE k (ess.take j) ++ ess.drop j) S ∧ Only S w wr) (fun _ i _ => ess.length - (intOf i).toNat)
    case atStart => exact ⟨0, Nat.zero_le _, rfl, rfl, by simpa [mkEE] using Ho.out, Only.refl _ _⟩
    case round =>
      obtain ⟨j, hj, rfl, rfl, ho, hg⟩ := hrel
      have hct := cntEE_take ess j
      by_cases hlt : j < ess.length
      · obtain ⟨es, hes⟩ := getx ess j hlt
        have hct2 := cntEE_take ess (j + 1)
        rw [take_snoc hes, cntEE_append] at hct2
        simp only [cntEE] at hct2
        have hml : (mkEE k (ess.take j)).length = j := by rw [mkEE_len]; simp; omega
        have hy : (mkEE k (ess.take j) ++ ess.drop j)[j]? = some es := by
          rw [List.getElem?_append_right (by omega), hml, Nat.sub_self, List.getElem?_drop]; simpa using hes
        obtain ⟨u, T, hc1, hR, hTS, hback⟩ := OwnRows.touch lawE ho hy
        have Hs := Lib.hid hback
        have HR := Lib.hid hR
        have HTS := Lib.hid hTS
        have Hg := Lib.hid hg
        have Hes := Lib.hid hes
        have Hml := Lib.hid hml
        obtain ⟨A1, n1, z1, rfl⟩ := lawE.one hR
        clear hy ho hg hR hback hes hml hTS
        obtain ⟨cn, hcn⟩ : ∃ cn, cntEE (ess.take j) = cn := ⟨_, rfl⟩
        rw [hcn] at hct2 ⊢
        have Hcn := Lib.hid hcn
        clear hcn hct
        go_wp2_with fail
        refine (markEndS_any _ es (k + cn) _ base T (by exact HR.out) (by omega)).mono ?_
        rintro e w1 ⟨rfl, ho1, hon⟩
        have Hon := Lib.hid (Hg.out.trans (hon.mono HTS.out))
        have Hrow := Lib.hid (Hs.out _ w1 ho1 hon)
        clear ho1 hon
        go_wp2
        go_roundw
        case rel =>
          refine ⟨j + 1, by omega, by go_num, ?_, ?_, Hon.out⟩
          · rw [take_snoc Hes.out, cntEE_append, Hcn.out]
            congr 1
            simp only [cntEE]
            omega
          · rw [take_snoc Hes.out, mkEE_append, Hcn.out]
            have := Hrow.out
            rw [mkEE_set _ _ _ _ Hml.out hlt] at this
            exact this
        case measure => simp [intOf]; omega
      · obtain rfl : j = ess.length := by omega
        have Ho1 := Lib.hid ho
        have Hg := Lib.hid hg
        clear ho hg
        go_wp2
        go_ret
        exact ⟨ret_int (by simp), by have := Ho1.out; rwa [List.drop_length, List.append_nil, List.take_length] at this, Hg.out⟩
end Go.Proofs.YtomnaabadohecaaGreat
namespace Go.Proofs.YtomnaabadohecaaGreat
open Go.RowKit
/-- a network of the call's own -/
def OwnNet (w : World) (base : Nat) (ve vi vn : Value) (n : Net) (S : List Nat) : Prop :=
  ∃ S1 S2 S3, OwnEE w base ve n.ends S1 ∧ OwnI w base vi n.ids S2 ∧ OwnI w base vn n.inputs S3 ∧ S = S1 ++ (S2 ++ S3) ∧ S.Nodup
theorem OwnNet.read {w : World} {base : Nat} {ve vi vn : Value} {n : Net} {S : List Nat} (h : OwnNet w base ve vi vn n S) : NetIn w ve vi vn n := by
  obtain ⟨S1, S2, S3, h1, h2, h3, _⟩ := h
  exact ⟨OwnEE.read h1, h2.1.ints, h3.1.ints⟩
theorem OwnNet.range {w : World} {base : Nat} {ve vi vn : Value} {n : Net} {S : List Nat} (h : OwnNet w base ve vi vn n S) : ∀ k ∈ S, base ≤ k ∧ k < w.heap.size := by
  obtain ⟨S1, S2, S3, h1, h2, h3, h4, _⟩ := h
  intro k hk
  rw [h4] at hk
  rcases List.mem_append.1 hk with hk | hk
  · exact lawEE.range h1 k hk
  · rcases List.mem_append.1 hk with hk | hk
    · exact lawI.range h2 k hk
    · exact lawI.range h3 k hk
theorem OwnNet.stable {w w' : World} {base : Nat} {ve vi vn : Value} {n : Net} {S : List Nat} (h : OwnNet w base ve vi vn n S) (hs : ∀ k ∈ S, w'.heap[k]? = w.heap[k]?) : OwnNet w' base ve vi vn n S := by
  obtain ⟨S1, S2, S3, h1, h2, h3, h4, h5⟩ := h
  exact ⟨S1, S2, S3, lawEE.stable h1 (fun k hk => hs k (by rw [h4]; simp [hk])), lawI.stable h2 (fun k hk => hs k (by rw [h4]; simp [hk])), lawI.stable h3 (fun k hk => hs k (by rw [h4]; simp [hk])), h4, h5⟩
theorem OwnNet.keep {w w' : World} {base : Nat} {ve vi vn : Value} {n : Net} {S : List Nat} (h : OwnNet w base ve vi vn n S) (hb : Below w.heap.size w w') : OwnNet w' base ve vi vn n S :=
  h.stable fun k hk => hb.block k (h.range k hk).2
theorem OwnNet.mono {w : World} {base base' : Nat} {ve vi vn : Value} {n : Net} {S : List Nat} (h : OwnNet w base ve vi vn n S) (hb : base' ≤ base) : OwnNet w base' ve vi vn n S := by
  obtain ⟨S1, S2, S3, h1, h2, h3, h4, h5⟩ := h
  exact ⟨S1, S2, S3, lawEE.mono h1 hb, lawI.mono h2 hb, lawI.mono h3 hb, h4, h5⟩
def cntNet (n : Net) : Nat := cntEE n.ends + n.ids.length + n.inputs.length
/-- the marks of a network -/
def mkNet (k : Nat) (n : Net) : Net := { ends := mkEE k n.ends, ids := marks (k + cntEE n.ends) n.ids.length, inputs := marks (k + cntEE n.ends + n.ids.length) n.inputs.length }
theorem vne {S : List Nat} {w : World} {base : Nat} {v : Value} {xs : List Int} (h : OwnI w base v xs S) : S = v.ownBlock.toList := h.2
set_option maxHeartbeats 1000000 in
theorem markNetwork_any (ve vi vn : Value) (n : Net) (k : Nat) (w : World) (base : Nat) (S : List Nat) (h : OwnNet w base ve vi vn n S) (hl : k + cntNet n ≤ 4611686018427387904) :
    Calls Tryz.prog 20 #[.agg #[ve, vi, vn], .int .i64 k] w fun e w' => e = .returned (.int .i64 ((k + cntNet n : Nat) : Int)) ∧ OwnNet w' base ve vi vn (mkNet k n) S ∧ Only S w w' := by
  have hr := h.range
  obtain ⟨S1, S2, S3, h1, h2, h3, h4, h5⟩ := h
  unfold cntNet at hl ⊢
  have hnd := h5
  rw [h4, List.nodup_append] at hnd
  have hnd2 := hnd.2.1
  rw [List.nodup_append] at hnd2
  have d12 : ∀ j ∈ S1, j ∉ S2 := fun j a b => hnd.2.2 j a j (List.mem_append_left _ b) rfl
  have d13 : ∀ j ∈ S1, j ∉ S3 := fun j a b => hnd.2.2 j a j (List.mem_append_right _ b) rfl
  have d23 : ∀ j ∈ S2, j ∉ S3 := fun j a b => hnd2.2.2 j a j b rfl
  have b1 := fun j hj => (lawEE.range h1 j hj).2
  have b2 := fun j hj => (lawI.range h2 j hj).2
  have b3 := fun j hj => (lawI.range h3 j hj).2
  have hb0 : Below w.heap.size w (w.alloc (.cells #[ve, vi, vn] 43)) := (Below.refl _ _).alloc (Nat.le_refl _) _
  have h1' := lawEE.keep h1 hb0
  have h2' := lawI.keep h2 hb0
  have h3' := lawI.keep h3 hb0
  obtain ⟨A1, n1, z1, rfl⟩ := lawEE.one h1
  obtain ⟨A2, n2, z2, rfl⟩ := lawI.one h2
  obtain ⟨A3, n3, z3, rfl⟩ := lawI.one h3
  have H1 := Lib.hid h1'
  have H2 := Lib.hid h2'
  have H3 := Lib.hid h3'
  have D12 := Lib.hid d12
  have D13 := Lib.hid d13
  have D23 := Lib.hid d23
  have B1 := Lib.hid b1
  have B2 := Lib.hid b2
  have B3 := Lib.hid b3
  have H4 := Lib.hid h4
  have H5 := Lib.hid h5
  have Hb0 := Lib.hid hb0
  clear h1 h2 h3 h1' h2' h3' h4 h5 hnd hnd2 d12 d13 d23 b1 b2 b3 hr hb0
  go_enter Tryz.func20, Tryz.ntmps20
  go_wp2_with fail
  refine (markEndSS_any _ n.ends k _ base S1 H1.out (by omega)).mono ?_
  rintro e w1 ⟨rfl, o1, t1⟩
  have c1 : w1.cell? ⟨w.heap.size, 1, none⟩ = some (.slice A2 n2 z2) := t1.cell (fun hh => by have := B1.out _ hh; simp at this) (by simp)
  have c2 : w1.cell? ⟨w.heap.size, 2, none⟩ = some (.slice A3 n3 z3) := t1.cell (fun hh => by have := B1.out _ hh; simp at this) (by simp)
  have sz1 : w.heap.size < w1.heap.size := by have := t1.size; simp at this; omega
  have O1 := Lib.hid o1
  have T1 := Lib.hid t1
  have H2a := Lib.hid (lawI.only H2.out t1 (fun j a b => D12.out j b a))
  have H3a := Lib.hid (lawI.only H3.out t1 (fun j a b => D13.out j b a))
  clear o1 t1 H2 H3
  go_wp2_with fail
  refine (markIntS_any _ n.ids (k + cntEE n.ends) _ base H2a.out.1 (by omega)).mono ?_
  rintro e w2 ⟨rfl, o2, g2⟩
  have t2 := Only.of_grown g2
  rw [← H2a.out.2] at t2
  have c3 : w2.cell? ⟨w.heap.size, 2, none⟩ = some (.slice A3 n3 z3) := t2.cell (fun hh => by have := B2.out _ hh; simp at this) c2
  have O2 := Lib.hid (show OwnI w2 base _ _ S2 from ⟨o2, H2a.out.2⟩)
  have T2 := Lib.hid t2
  have O1a := Lib.hid (lawEE.only O1.out t2 D12.out)
  have H3b := Lib.hid (lawI.only H3a.out t2 (fun j a b => D23.out j b a))
  clear o2 g2 t2 O1 H3a c1 c2
  go_wp2_with fail
  refine (markIntS_any _ n.inputs (k + cntEE n.ends + n.ids.length) _ base H3b.out.1 (by omega)).mono ?_
  rintro e w3 ⟨rfl, o3, g3⟩
  have t3 := Only.of_grown g3
  rw [← H3b.out.2] at t3
  have O3 := Lib.hid (show OwnI w3 base _ _ S3 from ⟨o3, H3b.out.2⟩)
  have T3 := Lib.hid t3
  have O1b := Lib.hid (lawEE.only O1a.out t3 D13.out)
  have O2b := Lib.hid (lawI.only O2.out t3 D23.out)
  clear o3 g3 t3 c3
  go_wp2_with fail
  go_ret
  refine ⟨ret_int (by omega), ⟨S1, S2, S3, O1b.out, O2b.out, O3.out, H4.out, H5.out⟩, ?_⟩
  have m1 : ∀ j ∈ S1, j ∈ S := fun j hj => by rw [H4.out]; simp [hj]
  have m2 : ∀ j ∈ S2, j ∈ S := fun j hj => by rw [H4.out]; simp [hj]
  have m3 : ∀ j ∈ S3, j ∈ S := fun j hj => by rw [H4.out]; simp [hj]
  exact (((Only.of_below Hb0.out).trans (T1.out.mono m1)).trans (T2.out.mono m2)).trans (T3.out.mono m3)
def eqEE (x y : List (List (Int × Int))) : Bool := decide (x = y)
theorem eqEndSS_b (v u : Value) (xs ys : List (List (Int × Int))) (w : World) (h : EndSS w v xs) (h' : EndSS w u ys) :
    Calls Tryz.prog 73 #[v, u] w fun e w' => e = .returned (.bool (eqEE xs ys)) ∧ Below w.heap.size w w' := eqEndSS_any v u xs ys w h h'
def eqIs (x y : List Int) : Bool := decide (x = y)
theorem eqIntS_b (v u : Value) (xs ys : List Int) (w : World) (h : IntS w v xs) (h' : IntS w u ys) :
    Calls Tryz.prog 58 #[v, u] w fun e w' => e = .returned (.bool (eqIs xs ys)) ∧ Below w.heap.size w w' := (eqIntS_any v u xs ys w h h').mono fun _ _ ⟨he, m, hm⟩ => ⟨he, by rw [hm]; exact below_drewN (Below.refl _ _) m⟩
set_option maxHeartbeats 1000000 in
theorem eqNetwork_same (ve vi vn ue ui un : Value) (n : Net) (w : World) (h : NetIn w ve vi vn n) (h' : NetIn w ue ui un n) :
    Calls Tryz.prog 18 #[.agg #[ve, vi, vn], .agg #[ue, ui, un]] w fun e w' => e = .returned (.bool true) ∧ Below w.heap.size w w' := by
  have hb0 : Below w.heap.size w ((w.alloc (.cells #[ve, vi, vn] 43)).alloc (.cells #[ue, ui, un] 43)) := ((Below.refl _ _).alloc (Nat.le_refl _) _).alloc (by simp) _
  have e1 : eqEE n.ends n.ends = true := by simp [eqEE]
  have e2 : eqIs n.ids n.ids = true := by simp [eqIs]
  have e3 : eqIs n.inputs n.inputs = true := by simp [eqIs]
  have g := h.keep hb0
  have g' := h'.keep hb0
  have HN := Lib.hid g
  have HN' := Lib.hid g'
  obtain ⟨⟨A1, z1, rfl, _⟩, ⟨A2, z2, rfl, _⟩, ⟨A3, z3, rfl, _⟩⟩ := g
  obtain ⟨⟨C1, y1, rfl, _⟩, ⟨C2, y2, rfl, _⟩, ⟨C3, y3, rfl, _⟩⟩ := g'
  have Hb0 := Lib.hid hb0
  clear h h' hb0
  go_enter Tryz.func18, Tryz.ntmps18
  go_wp2_with fail
  refine (eqEndSS_b _ _ n.ends n.ends _ (by exact HN.out.1) (by exact HN'.out.1)).mono ?_
  rintro e w1 ⟨rfl, hb1⟩
  have c1 : w1.cell? ⟨w.heap.size, 1, none⟩ = some (.slice A2 n.ids.length z2) := bc hb1 (by simp)
  have c2 : w1.cell? ⟨w.heap.size, 2, none⟩ = some (.slice A3 n.inputs.length z3) := bc hb1 (by simp)
  have c3 : w1.cell? ⟨w.heap.size + 1, 1, none⟩ = some (.slice C2 n.ids.length y2) := bc hb1 (by simp)
  have c4 : w1.cell? ⟨w.heap.size + 1, 2, none⟩ = some (.slice C3 n.inputs.length y3) := bc hb1 (by simp)
  have Hb1 := Lib.hid hb1
  have HN1 := Lib.hid (HN.out.keep hb1)
  have HN1' := Lib.hid (HN'.out.keep hb1)
  clear hb1 HN HN'
  go_wp2_with fail
  refine (eqIntS_b _ _ n.ids n.ids _ (by exact HN1.out.2.1) (by exact HN1'.out.2.1)).mono ?_
  rintro e w2 ⟨rfl, hb2⟩
  have c5 := bc hb2 c2
  have c6 := bc hb2 c4
  have Hb2 := Lib.hid hb2
  have HN2 := Lib.hid (HN1.out.keep hb2)
  have HN2' := Lib.hid (HN1'.out.keep hb2)
  clear hb2 HN1 HN1' c1 c2 c3 c4
  go_wp2_with fail
  refine (eqIntS_b _ _ n.inputs n.inputs _ (by exact HN2.out.2.2) (by exact HN2'.out.2.2)).mono ?_
  rintro e w3 ⟨rfl, hb3⟩
  have Hb3 := Lib.hid hb3
  clear hb3 c5 c6
  go_wp2_with fail
  go_ret
  have k1 := Hb0.out.trans (Hb1.out.mono Hb0.out.size)
  have k2 := k1.trans (Hb2.out.mono k1.size)
  exact ⟨rfl, k2.trans (Hb3.out.mono k2.size)⟩
end Go.Proofs.YtomnaabadohecaaGreat
