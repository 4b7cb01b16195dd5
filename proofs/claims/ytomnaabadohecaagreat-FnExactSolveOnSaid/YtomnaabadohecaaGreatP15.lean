/- Parts of the proof: walks of functions and plain laws. -/
import Derived.Test.YtomnaabadohecaaGreatP11
import Derived.Test.YtomnaabadohecaaGreatP4
import Derived.Test.YtomnaabadohecaaGreatP8
import Derived.WalkSpells
import Derived.Test.YtomnaabadohecaaGreatP14
import Derived.Test.YtomnaabadohecaaGreatP12
import Derived.Test.YtomnaabadohecaaGreatP0
namespace Go.Proofs.YtomnaabadohecaaGreat
open Go.RowKit
/-! insertion by swaps -/
def InsInv (orig l : List Int) (i k : Nat) : Prop := ∃ (A : List Int) (x : Int) (B C : List Int), l = A ++ x :: (B ++ C) ∧ A.length = k ∧ A.length + B.length = i ∧ (A ++ B).Pairwise (· ≤ ·) ∧ (∀ b ∈ B, x ≤ b) ∧ l.Perm orig
def SortedTo (orig l : List Int) (i : Nat) : Prop := (l.take i).Pairwise (· ≤ ·) ∧ l.Perm orig
theorem ins_start {orig l : List Int} {i : Nat} (h : SortedTo orig l i) (hi : i < l.length) : InsInv orig l i i := by
  refine ⟨l.take i, l[i], [], l.drop (i + 1), ?_, by simp; omega, by simp; omega, by simpa using h.1, by simp, h.2⟩
  rw [List.nil_append, ← List.drop_eq_getElem_cons hi, List.take_append_drop]
theorem pairwise_mid {A B : List Int} {x : Int} (h : (A ++ B).Pairwise (· ≤ ·)) (ha : ∀ a ∈ A, a ≤ x) (hb : ∀ b ∈ B, x ≤ b) : (A ++ x :: B).Pairwise (· ≤ ·) := by
  rw [List.pairwise_append] at h ⊢
  refine ⟨h.1, List.pairwise_cons.2 ⟨hb, h.2.1⟩, ?_⟩
  intro a ha' b hb'
  rcases List.mem_cons.1 hb' with rfl | hb'
  · exact ha a ha'
  · exact h.2.2 a ha' b hb'
theorem ins_done {orig l : List Int} {i k : Nat} (h : InsInv orig l i k) (hk : k = 0 ∨ ∃ y x, l[k - 1]? = some y ∧ l[k]? = some x ∧ y ≤ x) : SortedTo orig l (i + 1) := by
  obtain ⟨A, x, B, C, rfl, h1, h2, h3, h4, h5⟩ := h
  refine ⟨?_, h5⟩
  have e : (A ++ x :: (B ++ C)).take (i + 1) = A ++ x :: B := by
    rw [show A ++ x :: (B ++ C) = (A ++ x :: B) ++ C by simp, List.take_append_of_le_length (by simp; omega), List.take_of_length_le (by simp; omega)]
  rw [e]
  refine pairwise_mid h3 ?_ h4
  intro a ha
  rcases hk with hk | ⟨y, z, hy, hz, hyz⟩
  · obtain rfl : A = [] := List.eq_nil_of_length_eq_zero (by omega)
    simp at ha
  · have hz' : z = x := by
      rw [List.getElem?_append_right (by omega), ← h1] at hz
      simpa using hz.symm
    subst hz'
    obtain ⟨j, hj, rfl⟩ := List.mem_iff_getElem.1 ha
    have hA : A.Pairwise (· ≤ ·) := (List.pairwise_append.1 h3).1
    rw [List.getElem?_append_left (by omega)] at hy
    obtain ⟨hl, he⟩ := List.getElem?_eq_some_iff.1 hy
    rcases Nat.lt_or_ge j (k - 1) with hlt | hge
    · have := List.pairwise_iff_getElem.1 hA j (k - 1) hj hl hlt
      omega
    · obtain rfl : j = k - 1 := by omega
      omega
theorem ins_swap {orig l : List Int} {i k : Nat} {x y : Int} (h : InsInv orig l i (k + 1)) (hy : l[k]? = some y) (hx : l[k + 1]? = some x) (hyx : x < y) : InsInv orig ((l.set (k + 1) y).set k x) i k := by
  obtain ⟨A, x', B, C, rfl, h1, h2, h3, h4, h5⟩ := h
  have hx' : x' = x := by
    rw [List.getElem?_append_right (by omega), ← h1] at hx
    simpa using hx
  subst hx'
  rw [List.getElem?_append_left (by omega)] at hy
  obtain ⟨hl, he⟩ := List.getElem?_eq_some_iff.1 hy
  obtain ⟨A', hA⟩ : ∃ A', A = A' ++ [y] := by
    refine ⟨A.take k, ?_⟩
    have : A.take (k + 1) = A := List.take_of_length_le (by omega)
    have e2 := List.take_succ_eq_append_getElem hl
    rw [this, he] at e2
    exact e2
  subst hA
  simp only [List.length_append, List.length_cons, List.length_nil, Nat.zero_add] at h1 h2
  have hk : A'.length = k := by omega
  have e : ((A' ++ [y] ++ x' :: (B ++ C)).set (k + 1) y).set k x' = A' ++ x' :: ((y :: B) ++ C) := by
    rw [show A' ++ [y] ++ x' :: (B ++ C) = A' ++ (y :: x' :: (B ++ C)) by simp, List.set_append_right _ _ (by omega), List.set_append_right _ _ (by omega), hk]
    simp
  rw [e]
  refine ⟨A', x', y :: B, C, rfl, hk, by simp; omega, by simpa using h3, ?_, ?_⟩
  · intro b hb
    rcases List.mem_cons.1 hb with rfl | hb
    · omega
    · exact h4 b hb
  · refine List.Perm.trans ?_ h5
    rw [show A' ++ [y] ++ x' :: (B ++ C) = A' ++ (y :: x' :: (B ++ C)) by simp]
    exact List.Perm.append_left _ (List.Perm.swap _ _ _)
theorem sorted_all {orig l : List Int} (h : SortedTo orig l l.length) : l = sortI orig := by
  have h1 := h.1
  rw [List.take_length] at h1
  exact sort_unique (h.2.trans (sortI_perm _).symm) h1 (sortI_sorted _)
theorem ins_len {orig l : List Int} {i k : Nat} (h : InsInv orig l i k) : l.length = orig.length ∧ k ≤ i ∧ i < l.length := by
  obtain ⟨A, x, B, C, rfl, h1, h2, h3, h4, h5⟩ := h
  refine ⟨h5.length_eq, by omega, by simp; omega⟩
end Go.Proofs.YtomnaabadohecaaGreat
namespace Go.Proofs.YtomnaabadohecaaGreat
open Go.RowKit
/-! what copies of networks need -/
theorem tflow_alloc {P : Program} {ops : Array Oper} {w0 : World} {fin : Act → World → Prop} {o : Oper} {rest : List Oper} {A : Act} {W : World} {ob : Obj} {v : Value} (hw : Region.wanted o (yielded ops A.tmps) = true) (h : (execOp A.eval o).run P W = .ok (.value v) (W.alloc ob)) (hS : Since w0 W)
    (hr : ∀ W', W' = W.alloc ob → Since w0 W' → TFlow P ops (Since w0) fin rest (A.put o.dst v) W') : TFlow P ops (Since w0) fin (o :: rest) A W :=
  tflow_new hw h (since_alloc _ hS) (hr _ rfl (since_alloc _ hS))
/-- the first k blocks of a world -/
def trunc (w : World) (k : Nat) : World := { w with heap := w.heap.extract 0 k }
theorem trunc_size (w : World) {k : Nat} (hk : k ≤ w.heap.size) : (trunc w k).heap.size = k := by simp [trunc]; omega
theorem trunc_since (w : World) {k : Nat} (hk : k ≤ w.heap.size) : Since (trunc w k) w := by
  refine ⟨rfl, rfl, rfl, by rw [trunc_size w hk]; exact hk, fun i hi => ?_⟩
  rw [trunc_size w hk] at hi
  simp [trunc, Array.getElem?_extract, hi]
  omega
theorem since_trunc {w0 w : World} {k : Nat} (h : Since w0 w) (hk : k ≤ w.heap.size) (h0 : w0.heap.size ≤ k) : Since w0 (trunc w k) := by
  refine ⟨h.os, h.tape, h.output, by rw [trunc_size w hk]; exact h0, fun i hi => ?_⟩
  have := h.block i hi
  simp only [trunc, Array.getElem?_extract]
  rw [if_pos (by omega)]
  simpa using this
/-- a box of a network, its type too -/
def BoxN (W : World) (b : Nat) (x y z : Value) : Prop := W.heap[b]? = some (.cells #[x, y, z] 43)
theorem BoxN.box {W : World} {b : Nat} {x y z : Value} (h : BoxN W b x y z) : Box3 W b x y z := ⟨_, h⟩
theorem BoxN.lt {W : World} {b : Nat} {x y z : Value} (h : BoxN W b x y z) : b < W.heap.size := (Array.getElem?_eq_some_iff.1 h).1
theorem BoxN.since {W W' : World} {b : Nat} {x y z : Value} (h : BoxN W b x y z) (hs : Since W W') : BoxN W' b x y z := (hs.block b h.lt).trans h
def NewB (W : World) (B : Nat) (u : Value) : Prop := ∃ b, u = .pointer (some ⟨b, 0, none⟩) ∧ B ≤ b ∧ BoxN W b (.slice none 0 0) (.slice none 0 0) (.slice none 0 0)
theorem NewB.keep {W W' : World} {B : Nat} {u : Value} (h : NewB W B u) (hs : Since W W') : NewB W' B u := by
  obtain ⟨b, h1, h2, h3⟩ := h
  exact ⟨b, h1, h2, h3.since hs⟩
theorem NewB.new (W : World) {B : Nat} (h : B ≤ W.heap.size) : NewB (W.alloc (.cells #[.slice none 0 0, .slice none 0 0, .slice none 0 0] 43)) B (.pointer (some ⟨W.heap.size, 0, none⟩)) :=
  ⟨_, rfl, h, by show (W.heap.push _)[W.heap.size]? = _; rw [Array.getElem?_push_size]⟩
def NewRows (W : World) (B n : Nat) (u : Value) : Prop := ∃ g, u = .slice (some ⟨g, 0, none⟩) n n ∧ B ≤ g ∧ OwnEE W B (.slice (some ⟨g, 0, none⟩) n n) (List.replicate n []) [g]
theorem NewRows.keep {W W' : World} {B n : Nat} {u : Value} (h : NewRows W B n u) (hs : Since W W') : NewRows W' B n u := by
  obtain ⟨g, h1, h2, h3⟩ := h
  exact ⟨g, h1, h2, lawEE.keep h3 hs.below⟩
theorem own_neN {W : World} {base b : Nat} {v x y z : Value} {xs : List Int} (h : Own W base v xs) (hb : BoxN W b x y z) : v.ownBlock ≠ some b := by
  rcases h.2 with ⟨rfl, _⟩ | ⟨g, cap, cur, rfl, _, hc, _⟩
  · simp [Value.ownBlock]
  · intro e
    simp [Value.ownBlock] at e
    subst e
    unfold BoxN at hb
    rw [hb] at hc
    simp at hc
theorem own_neR {W : World} {base base' g : Nat} {v : Value} {n c : Nat} {xs : List Int} {ess : List (List (Int × Int))} {S : List Nat} (h : Own W base v xs) (hg : OwnEE W base' (.slice (some ⟨g, 0, none⟩) n c) ess S) : v.ownBlock ≠ some g := by
  rcases h.2 with ⟨rfl, _⟩ | ⟨q, cap, cur, rfl, _, hc, _⟩
  · simp [Value.ownBlock]
  · intro e
    simp [Value.ownBlock] at e
    subst e
    obtain ⟨vs, Ss, h1, _⟩ := hg
    rcases h1.2 with ⟨h0, _⟩ | ⟨q', cap', cur', h0, _, hc', _⟩
    · cases h0
    · cases h0
      rw [hc] at hc'
      simp at hc'
theorem boxN_neR {W : World} {base' g b : Nat} {x y z : Value} {n c : Nat} {ess : List (List (Int × Int))} {S : List Nat} (h : BoxN W b x y z) (hg : OwnEE W base' (.slice (some ⟨g, 0, none⟩) n c) ess S) : b ≠ g := by
  intro e
  subst e
  obtain ⟨vs, Ss, h1, _⟩ := hg
  rcases h1.2 with ⟨h0, _⟩ | ⟨q', cap', cur', h0, _, hc', _⟩
  · cases h0
  · cases h0
    unfold BoxN at h
    rw [h] at hc'
    simp at hc'
/-- append of a row of ends, empty or not -/
theorem app_endsE {w w0 : World} {ops : Array Oper} {rest : List Oper} {o : Oper} {a : Act} {Q : Exit → Act → World → Prop} (hgd : o.guard = none) (s x : Operand)
    (ho : o.op = .call { callee := .builtin .append, args := #[s, x], argTypes := #[112, 112] }) {v u : Value} {xs ys : List (Int × Int)} {T : List Nat} (hs : a.eval s = v) (h : OwnE w w0.heap.size v xs T) (hy : EndS w u ys)
    (hx : a.eval x = u) (hl : xs.length + ys.length ≤ 1000000) (hsn : Since w0 w)
    (k : ∀ v' w' T', OwnE w' w0.heap.size v' (xs ++ ys) T' → (∀ j ∈ T', j ∈ T ∨ j = w.heap.size) → Only T w w' → Since w0 w' → wpList Tryz.prog ops Q rest (a.put o.dst v') w') : wpList Tryz.prog ops Q (o :: rest) a w := by
  obtain ⟨i0, hi, hz0, hz1, hz2⟩ := info_parts end_info
  obtain ⟨A, c, rfl, _, _, hA⟩ := hy
  have hlt := fun q hq => World.ownsRow.lt h.1 q hq
  rcases Nat.eq_zero_or_pos ys.length with h0 | h0
  · have hys : ys = [] := List.eq_nil_of_length_eq_zero h0
    subst hys
    refine wpList_plain hgd fun K hK => ?_
    have hrun : (Builtin.append_ #[112, 112] o.type #[v, .slice A 0 c]).run Tryz.prog w = .ok v w := by
      rcases h.1.2 with ⟨rfl, hx0⟩ | ⟨g, cap, cur, rfl, _, _, hnc, _⟩
      · cases A <;> simp [Builtin.append_, run_underlying Tryz.underlying112, sizeOf, typeInfo, hi, Builtin.lenOf, Builtin.firstCells, loadCells, loadCellsFrom, Result.andThen]
      · cases A <;> simp [Builtin.append_, run_underlying Tryz.underlying112, sizeOf, typeInfo, hi, Builtin.lenOf, Builtin.firstCells, hnc, storeCells, loadCells, loadCellsFrom, Result.andThen]
    simp only [List.length_nil] at hx
    unfold Oper.wp
    simp [execOp, ho, resolve, invoke, builtin, hs, hx, hrun, Result.andThen]
    exact hK _ _ (k v w T (by simpa using h) (fun j hj => .inl hj) (Only.refl _ _) hsn)
  · obtain ⟨y0, hy0⟩ := getx ys 0 h0
    obtain ⟨b, off, rfl, _⟩ := hA 0 y0 hy0
    refine wpList_append_lies w hgd s x 112 ho w0.heap.size 114 i0 _ 2 16 Tryz.underlying112 hi hz0 hz1 hz2 rfl (by decide) v xs.length (xs.flatMap encE) hs h.1 ⟨b, off, none⟩ ys.length c (ys.flatMap encE) hx (encE_len ys)
      (by
        intro j u hj
        have hj2 := lt_of_get hj
        rw [encE_len] at hj2
        obtain ⟨e, he⟩ := getx ys (j / 2) (by omega)
        obtain ⟨b', off', e', c1, c2⟩ := hA (j / 2) e he
        cases e'
        obtain ⟨g1, g2⟩ := encE_get he
        rw [Go.Addr.add_lit]
        rcases Nat.mod_two_eq_zero_or_one j with hm | hm
        · have e1 : j / 2 * 2 = j := by omega
          rw [e1] at c1 g1
          rw [g1] at hj
          rw [c1]; exact hj
        · have e1 : j / 2 * 2 + 1 = j := by omega
          rw [e1] at g2
          rw [show off + j / 2 * 2 + 1 = off + j by omega] at c2
          rw [g2] at hj
          rw [c2]; exact hj) (by intro u hu; obtain ⟨x, _, hx⟩ := List.mem_flatMap.1 hu; simp [encE] at hx; rcases hx with rfl | rfl <;> rfl) h0 (by unfold maxLen; omega) (by omega) hsn.below.size w.heap.size rfl ?_
    intro g cap w' q1 q2 q3 q4
    have hT := h.2
    refine k _ w' _ ⟨?_, rfl⟩ ?_ (by rw [hT]; exact Only.of_grown q2) (Below.grown hsn q2 hsn.below.size (fun q hq => (hlt q hq).1))
    · rw [List.flatMap_append, List.length_append]
      exact q1
    · intro j hj
      simp [Value.ownBlock] at hj
      subst hj
      rcases q3 with q3 | q3
      · left; rw [hT, q3]; simp
      · exact .inr q3
/-- a row of rows, one row more -/
theorem OwnRows.snocC {β : Type} {R : World → Nat → Value → β → List Nat → Prop} {e : TypeId} (L : RowLaw R) {w w' : World} {base g cap : Nat} {v u : Value} {xs : List β} {x : β} {S T : List Nat} (h : OwnRows e R w base v xs S) (hu : R w base u x T) (hd : ∀ j ∈ T, j ∉ S)
    (vs : List Value) (Ss : List (List Nat)) (h1 : w.ownsRow base e 1 v xs.length vs) (h2 : Ss.length = xs.length) (h3 : ∀ (k : Nat) u x T, vs[k]? = some u → xs[k]? = some x → Ss[k]? = some T → R w base u x T) (h4 : S = v.ownBlock.toList ++ Ss.flatten) (h5 : S.Nodup)
    (q1 : w'.ownsRow base e 1 (.slice (some ⟨g, 0, none⟩) (xs.length + 1) cap) (xs.length + 1) (vs ++ [u])) (q2 : w.grownBy w' v.ownBlock) (q3 : v.ownBlock = some g ∨ g = w.heap.size) :
    ∃ S', OwnRows e R w' base (.slice (some ⟨g, 0, none⟩) (xs.length + 1) cap) (xs ++ [x]) S' ∧ (∀ j ∈ S', j ∈ S ∨ j ∈ T ∨ j = w.heap.size) := by
  have hS := (rows_law e L).range h
  have hTr := L.range hu
  have hvl : vs.length = xs.length := by simpa using h1.1
  have h5' := h5
  rw [h4, List.nodup_append] at h5'
  have hin : ∀ j ∈ Ss.flatten, j ∈ S := fun j hj => by rw [h4]; exact List.mem_append_right _ hj
  have hon := Only.of_grown q2
  have hnv : ∀ j ∈ Ss.flatten, j ∉ v.ownBlock.toList := fun j hj hv => h5'.2.2 j hv j hj rfl
  have hTv : ∀ j ∈ T, j ∉ v.ownBlock.toList := fun j hj hv => hd j hj (by rw [h4]; exact List.mem_append_left _ hv)
  have hg : g ∉ Ss.flatten := fun hg => by
    rcases q3 with q3 | q3
    · exact hnv g hg (by rw [q3]; simp)
    · have := (hS g (hin g hg)).2; omega
  have hgT : g ∉ T := fun hg => by
    rcases q3 with q3 | q3
    · exact hTv g hg (by rw [q3]; simp)
    · have := (hTr g hg).2; omega
  refine ⟨[g] ++ (Ss ++ [T]).flatten, ⟨vs ++ [u], Ss ++ [T], ?_, by simp [h2], ?_, by simp [Value.ownBlock], ?_⟩, ?_⟩
  · rw [List.length_append]; exact q1
  · intro k u' x' T' hu' hx' hT'
    rcases Nat.lt_or_ge k xs.length with hk | hk
    · rw [List.getElem?_append_left (by omega)] at hu' hx' hT'
      exact L.only (h3 k u' x' T' hu' hx' hT') hon (fun j hj => hnv j (List.mem_flatten.2 ⟨T', List.mem_of_getElem? hT', hj⟩))
    · have hk1 : k = xs.length := by
        have := lt_of_get hx'
        simp at this; omega
      subst hk1
      rw [List.getElem?_append_right (Nat.le_refl _), Nat.sub_self] at hx'
      rw [← hvl, List.getElem?_append_right (Nat.le_refl _), Nat.sub_self] at hu'
      rw [← h2, List.getElem?_append_right (Nat.le_refl _), Nat.sub_self] at hT'
      simp at hu' hx' hT'
      subst hu' hx' hT'
      exact L.only hu hon hTv
  · rw [List.flatten_append, List.nodup_append]
    refine ⟨by simp, ?_, ?_⟩
    · rw [List.nodup_append]
      refine ⟨h5'.2.1, by simpa using L.nodup hu, ?_⟩
      intro a ha b hb e
      simp at hb
      subst e
      exact hd a hb (hin a ha)
    · intro a ha b hb e
      simp at ha
      subst e ha
      rcases List.mem_append.1 hb with hb | hb
      · exact hg hb
      · simp at hb; exact hgT hb
  · intro j hj
    rw [List.flatten_append] at hj
    rcases List.mem_append.1 hj with hj | hj
    · simp at hj
      subst hj
      rcases q3 with q3 | q3
      · left; rw [h4, q3]; simp
      · exact .inr (.inr q3)
    · rcases List.mem_append.1 hj with hj | hj
      · exact .inl (hin j hj)
      · simp at hj; exact .inr (.inl hj)
/-- append of a row to a network's ends -/
theorem app_rowN {w wT : World} {ops : Array Oper} {rest : List Oper} {o : Oper} {a : Act} {Q : Exit → Act → World → Prop} (hgd : o.guard = none) (s x : Operand)
    (ho : o.op = .call { callee := .builtin .append, args := #[s, x], argTypes := #[41, 41] }) {base : Nat} {v ui un u : Value} {N : Net} {S T : List Nat} {es : List (Int × Int)} (hs : a.eval s = v) (h : OwnNet w base v ui un N S)
    (b : Nat) (hx : a.eval x = .slice (some ⟨b, 0, none⟩) 1 1) (hc : w.cell? ⟨b, 0, none⟩ = some u) (hu : OwnE w base u es T) (hd : ∀ j ∈ T, j ∉ S) (hl : N.ends.length + 1 ≤ 1000000) (hsn : Since wT w) (hbs : base ≤ w.heap.size) (hvT : ∀ q, v.ownBlock = some q → wT.heap.size ≤ q)
    (k : ∀ v' w' S', (∀ q, v'.ownBlock = some q → v.ownBlock = some q ∨ q = w.heap.size) → OwnNet w' base v' ui un { N with ends := N.ends ++ [es] } S' → (∀ j ∈ S', j ∈ S ∨ j ∈ T ∨ j = w.heap.size) → Only S w w' → Since wT w' → wpList Tryz.prog ops Q rest (a.put o.dst v') w') : wpList Tryz.prog ops Q (o :: rest) a w := by
  obtain ⟨i0, hi, hz0, hz1, hz2⟩ := info_parts es_info
  have hrg := h.range
  obtain ⟨S1, S2, S3, h1, h2, h3, h4, h5⟩ := h
  have h1b := h1
  obtain ⟨vs, Ss, r1, r2, r3, r4, r5⟩ := h1
  obtain ⟨A, m, c, rfl⟩ := lawE.one hu
  refine wpList_append_lies w hgd s x 41 ho base 112 i0 _ 1 24 Tryz.underlying41 hi hz0 hz1 hz2 rfl (by decide) v N.ends.length vs hs r1 ⟨b, 0, none⟩ 1 1 [.slice A m c] hx rfl
    (by intro j u hj; match j, hj with | 0, hj => (simp at hj; subst hj; simpa [Addr.add] using hc) | j + 1, hj => simp at hj) (by simp [Value.oneCell']) (by omega) (by unfold maxLen; omega) (by omega) hbs w.heap.size rfl ?_
  intro g cap w' q1 q2 q3 q4
  rw [h4, List.nodup_append] at h5
  obtain ⟨n1, n2, n3⟩ := h5
  have hd1 : ∀ j ∈ T, j ∉ S1 := fun j hj hS => hd j hj (by rw [h4]; exact List.mem_append_left _ hS)
  obtain ⟨S1', o1, hS1⟩ := OwnRows.snocC lawE h1b hu hd1 vs Ss r1 r2 r3 r4 r5 q1 q2 q3
  have hon := Only.of_grown q2
  have hvS : ∀ j ∈ v.ownBlock.toList, j ∈ S1 := fun j hj => by rw [r4]; exact List.mem_append_left _ hj
  have d : ∀ j ∈ S2 ++ S3, j ∉ v.ownBlock.toList := fun j hj hv => n3 j (hvS j hv) j hj rfl
  refine k _ w' (S1' ++ (S2 ++ S3)) (fun q hq => by simp [Value.ownBlock] at hq; subst hq; exact q3) ⟨S1', S2, S3, ?_, lawI.only h2 hon (fun j hj => d j (List.mem_append_left _ hj)), lawI.only h3 hon (fun j hj => d j (List.mem_append_right _ hj)), rfl, ?_⟩ ?_ (hon.mono fun j hj => by rw [h4]; exact List.mem_append_left _ (hvS j hj)) (Below.grown hsn q2 hsn.below.size hvT)
  · exact o1
  · rw [List.nodup_append]
    refine ⟨lawEE.nodup o1, n2, fun a ha b hb hab => ?_⟩
    subst hab
    rcases hS1 a ha with h | h | h
    · exact n3 a h a hb rfl
    · exact hd a h (by rw [h4]; exact List.mem_append_right _ hb)
    · have := (hrg a (by rw [h4]; exact List.mem_append_right _ hb)).2
      omega
  · intro j hj
    rcases List.mem_append.1 hj with hj | hj
    · rcases hS1 j hj with h | h | h
      · exact .inl (by rw [h4]; exact List.mem_append_left _ h)
      · exact .inr (.inl h)
      · exact .inr (.inr h)
    · exact .inl (by rw [h4]; exact List.mem_append_right _ hj)
/-- ends stored in the row of a network -/
theorem OwnNet.setEnd {w : World} {base g c n : Nat} {vi vn : Value} {N : Net} {S : List Nat} (h : OwnNet w base (.slice (some ⟨g, 0, none⟩) n c) vi vn N S) {k j : Nat} {es : List (Int × Int)} (hx : N.ends[k]? = some es) (hj : j < es.length) :
    ∃ gr cr, w.cell? ⟨g, k, none⟩ = some (.slice (some ⟨gr, 0, none⟩) es.length cr) ∧ es.length ≤ cr ∧ cr ≤ maxLen ∧ g ∈ S ∧ gr ∈ S ∧ g ≠ gr ∧ (w.frozen? ⟨gr, j * 2, none⟩ = false ∧ w.frozen? ⟨gr, j * 2 + 1, none⟩ = false) ∧ (∃ z, w.cell? ⟨gr, j * 2, none⟩ = some z) ∧ (∃ z, w.cell? ⟨gr, j * 2 + 1, none⟩ = some z) ∧
      ∀ y : Int × Int, OwnNet ((w.setCell ⟨gr, j * 2, none⟩ (.int .i64 y.1)).setCell ⟨gr, j * 2 + 1, none⟩ (.int .i64 y.2)) base (.slice (some ⟨g, 0, none⟩) n c) vi vn { N with ends := N.ends.set k (es.set j y) } S := by
  obtain ⟨S1, S2, S3, h1, h2, h3, h4, h5⟩ := h
  obtain ⟨u, T, hu, hR, hT, hup⟩ := OwnRows.touch lawE h1 hx
  have hnd := (rows_law _ lawE).nodup h1
  obtain ⟨_, _, _, _, _, hdis, _, hg1⟩ := OwnRows.at_ h1 hx
  rw [h4, List.nodup_append] at h5
  obtain ⟨n1, n2, n3⟩ := h5
  have hR' := hR.1
  rcases ownsRow_cases hR.1 with ⟨rfl, h0⟩ | ⟨gr, cr, rfl, hb1, hb2, hb3, hb4⟩
  · omega
  · have hgrT : gr ∈ T := by rw [hR.2]; simp [Value.ownBlock]
    obtain ⟨y0, hy0⟩ := getx es j hj
    obtain ⟨c1, c2, ff⟩ := OwnE.cells hR hy0
    have hne : g ≠ gr := fun e => by
      subst e
      obtain ⟨vs, Ss, e1, _⟩ := h1
      rcases e1.2 with ⟨h0, _⟩ | ⟨q', cap', cur', h0, _, hc', _⟩
      · cases h0
      · cases h0
        rcases hR'.2 with ⟨h0, _⟩ | ⟨q'', cap'', cur'', h0, _, hc'', _⟩
        · cases h0
        · cases h0
          rw [hc'] at hc''
          simp at hc''
    refine ⟨gr, cr, hu, hb3, hb4, by rw [h4]; exact List.mem_append_left _ hg1, by rw [h4]; exact List.mem_append_left _ (hT gr hgrT), hne, ff, ⟨_, c1⟩, ⟨_, c2⟩, fun y => ?_⟩
    have hon : Only T w ((w.setCell ⟨gr, j * 2, none⟩ (.int .i64 y.1)).setCell ⟨gr, j * 2 + 1, none⟩ (.int .i64 y.2)) := ((Only.refl _ _).setCell (.inl hgrT) _).setCell (.inl hgrT) _
    have d : ∀ q ∈ S2 ++ S3, q ∉ T := fun q hq hqT => n3 q (hT q hqT) q hq rfl
    exact ⟨S1, S2, S3, hup _ _ (OwnE.set hR hj y) hon, lawI.only h2 hon (fun q hq => d q (List.mem_append_left _ hq)), lawI.only h3 hon (fun q hq => d q (List.mem_append_right _ hq)), h4, by rw [h4, List.nodup_append]; exact ⟨n1, n2, n3⟩⟩
theorem trunc_box {w : World} {b : Nat} {x y z : Value} (h : BoxN w b x y z) : BoxN (trunc w (b + 1)) b x y z := by
  have := h.lt
  unfold BoxN at h ⊢
  simp only [trunc, Array.getElem?_extract]
  rw [if_pos (by omega)]
  simpa using h
theorem BoxN.only {S : List Nat} {W W' : World} {b : Nat} {x y z : Value} (h : BoxN W b x y z) (ho : Only S W W') (hb : b ∉ S) : BoxN W' b x y z := (ho.block b h.lt hb).trans h
theorem BoxN.put0 {W : World} {b : Nat} {x y z : Value} (h : BoxN W b x y z) (u : Value) : BoxN (W.setCell ⟨b, 0, none⟩ u) b u y z := by
  unfold BoxN at h ⊢
  simp [World.setCell, Array.getElem?_modify, h]
theorem BoxN.put1 {W : World} {b : Nat} {x y z : Value} (h : BoxN W b x y z) (u : Value) : BoxN (W.setCell ⟨b, 1, none⟩ u) b x u z := by
  unfold BoxN at h ⊢
  simp [World.setCell, Array.getElem?_modify, h]
theorem BoxN.put2 {W : World} {b : Nat} {x y z : Value} (h : BoxN W b x y z) (u : Value) : BoxN (W.setCell ⟨b, 2, none⟩ u) b x y u := by
  unfold BoxN at h ⊢
  simp [World.setCell, Array.getElem?_modify, h]
theorem BoxN.other {W : World} {b : Nat} {x y z u : Value} {a : Addr} (h : BoxN W b x y z) (ha : b ≠ a.block) : BoxN (W.setCell a u) b x y z := (Below.heap_setCell W a u b ha).trans h
theorem ownNet_of {w : World} {base : Nat} {v ui un : Value} {ess : List (List (Int × Int))} {ids ins : List Int} {S1 : List Nat} (hE : OwnEE w base v ess S1) (h1 : Own w base ui ids) (h2 : Own w base un ins)
    (d1 : ∀ j ∈ S1, ui.ownBlock ≠ some j) (d2 : ∀ j ∈ S1, un.ownBlock ≠ some j) (d3 : ∀ j, ui.ownBlock = some j → un.ownBlock ≠ some j) :
    OwnNet w base v ui un ⟨ess, ids, ins⟩ (S1 ++ (ui.ownBlock.toList ++ un.ownBlock.toList)) := by
  refine ⟨S1, _, _, hE, ⟨h1, rfl⟩, ⟨h2, rfl⟩, rfl, ?_⟩
  rw [List.nodup_append, List.nodup_append]
  refine ⟨lawEE.nodup hE, ⟨by cases ui.ownBlock <;> simp, by cases un.ownBlock <;> simp, ?_⟩, ?_⟩
  · intro a ha b hb e
    subst e
    exact d3 a (by simpa using ha) (by simpa using hb)
  · intro a ha b hb e
    subst e
    rcases List.mem_append.1 hb with hb | hb
    · exact d1 a ha (by simpa using hb)
    · exact d2 a ha (by simpa using hb)
theorem app_zeroI {w : World} {ops : Array Oper} {rest : List Oper} {o : Oper} {a : Act} {Q : Exit → Act → World → Prop} (hgd : o.guard = none) (s x : Operand)
    (ho : o.op = .call { callee := .builtin .append, args := #[s, x], argTypes := #[24, 24] }) {base : Nat} {v : Value} {xs : List Int} (hs : a.eval s = v) (h : Own w base v xs) (A : Option Addr) (c : Nat) (hx : a.eval x = .slice A 0 c)
    (k : wpList Tryz.prog ops Q rest (a.put o.dst v) w) : wpList Tryz.prog ops Q (o :: rest) a w := by
  obtain ⟨i0, hi, hz0, hz1, hz2⟩ := info_parts int_info
  refine wpList_plain hgd fun K hK => ?_
  have hrun : (Builtin.append_ #[24, 24] o.type #[v, .slice A 0 c]).run Tryz.prog w = .ok v w := by
    rcases h.2 with ⟨rfl, hx0⟩ | ⟨g, cap, cur, rfl, _, _, hnc, _⟩
    · cases A <;> simp [Builtin.append_, run_underlying Tryz.underlying24, sizeOf, typeInfo, hi, Builtin.lenOf, Builtin.firstCells, loadCells, loadCellsFrom, Result.andThen]
    · cases A <;> simp [Builtin.append_, run_underlying Tryz.underlying24, sizeOf, typeInfo, hi, Builtin.lenOf, Builtin.firstCells, hnc, storeCells, loadCells, loadCellsFrom, Result.andThen]
  unfold Oper.wp
  simp [execOp, ho, resolve, invoke, builtin, hs, hx, hrun, Result.andThen]
  exact hK _ _ k
theorem ownE_lit0 (w : World) : OwnE (w.alloc (.cells #[] 114)) w.heap.size (.slice (some ⟨w.heap.size, 0, none⟩) 0 0) [] [w.heap.size] := by
  have := World.ownsRow_lit (base := w.heap.size) (e := 114) (size := 2) w #[] 0 (Nat.le_refl _) (by simp [maxLen]) (by simp)
  exact ⟨this, rfl⟩
set_option maxHeartbeats 1000000 in
theorem l1Own_all (v : Value) (xs : List Int) (w : World) (h : IntS w v xs) (hl : xs.length ≤ 17592186044416) :
    Calls Tryz.prog 171 #[v] w fun e w' => ∃ u, e = .returned u ∧ Own w' w.heap.size u xs ∧ Below w.heap.size w w' := by
  rcases Nat.eq_zero_or_pos xs.length with h0 | h0
  · obtain rfl : xs = [] := List.eq_nil_of_length_eq_zero h0
    obtain ⟨A, c, rfl, hlc, hm, _⟩ := h
    have ho := own_lit w [] (by simp [maxLen])
    simp only [List.map_nil, List.length_nil] at ho
    have Ho := Lib.hid ho
    clear ho
    go_enter Tryz.func171, Tryz.ntmps171
    go_wp2_with (at_builtin; refine app_zeroI rfl _ _ rfl rfl Ho.out A c rfl ?_)
    go_wp2
    go_ret
    exact ⟨_, rfl, Ho.out, below_alloc _ _⟩
  · exact l1Own_any v xs w h h0 hl
set_option maxRecDepth 100000 in
set_option maxHeartbeats 1000000 in
theorem cloneE_any (v : Value) (es : List (Int × Int)) (w : World) (h : EndS w v es) (hl : es.length ≤ 1000000) :
    Calls Tryz.prog 150 #[v] w fun e w' => ∃ u T, e = .returned u ∧ OwnE w' w.heap.size u es T ∧ Below w.heap.size w w' := by
  have hE := h
  have q53 : ∀ (w : World) (a : Option Addr) (n c n' c' : Nat), (binOp .eql 112 (.slice a n c) (.slice none n' c')).run Tryz.prog w = .ok (.bool a.isNone) w := fun w a n c n' c' => Lib.run_eql_slice_nil w _ _ a n c n' c' Tryz.underlying112
  obtain ⟨A, c, rfl, hlc, hm, hA⟩ := h
  cases A with
  | none =>
    have h0 : es = [] := by
      cases es with
      | nil => rfl
      | cons e es =>
        obtain ⟨_, _, h, _⟩ := hA 0 e rfl
        cases h
    subst h0
    go_enter Tryz.func150, Tryz.ntmps150
    go_wp2
    go_ret
    exact ⟨_, _, rfl, ⟨World.ownsRow_nil _ _ _ _, rfl⟩, Below.refl _ _⟩
  | some A =>
    have Ho := Lib.hid (ownE_lit0 w)
    have HE := Lib.hid (hE.keep (below_alloc w (.cells #[] 114)))
    clear hE hA
    go_enter Tryz.func150, Tryz.ntmps150
    go_wp2_with (at_builtin; refine app_endsE (w0 := w) rfl _ _ rfl rfl Ho.out HE.out rfl (by simpa using hl) (since_alloc _ (since_refl _)) ?_; intro v9 w9 T9 ho9 _ _ hs9)
    have Ho9 := Lib.hid ho9
    have Hs9 := Lib.hid hs9
    clear ho9 hs9
    go_wp2
    go_ret
    exact ⟨_, _, rfl, by simpa using Ho9.out, Hs9.out.below⟩
end Go.Proofs.YtomnaabadohecaaGreat
namespace Go.Proofs.YtomnaabadohecaaGreat
open Go.RowKit
/-! problems -/
theorem within_p (n lo hi : Int) (w : World) : Calls Tryz.prog 99 #[.int .i64 n, .int .i64 lo, .int .i64 hi] w fun e w' => e = .returned (.bool (inB lo hi n)) ∧ Below w.heap.size w w' := (within_b n lo hi w).mono fun _ _ ⟨h1, h2⟩ => ⟨h1, h2 ▸ Below.refl _ _⟩
theorem l1In_p (n lo hi : Int) (w : World) : Calls Tryz.prog 107 #[.int .i64 n, .int .i64 lo, .int .i64 hi] w fun e w' => e = .returned (.bool (inB lo hi n)) ∧ Below w.heap.size w w' := (l1In_b n lo hi w).mono fun _ _ ⟨h1, h2⟩ => ⟨h1, h2 ▸ Below.refl _ _⟩
theorem andL {a b : Bool} (h : (a && b) = true) : a = true := by simp at h; exact h.1
theorem andR {a b : Bool} (h : (a && b) = true) : b = true := by simp at h; exact h.2
theorem prOk_eq (p : Prob) : prOk p = (inB 1 8 p.labels && inB 1 4 p.degree && cfgs p.nodes p.degree p.labels && cfgs p.edges 2 p.labels) := by unfold prOk; simp only [Bool.and_assoc]
set_option maxHeartbeats 4000000 in
theorem isProblem_any (a b : Value) (p : Prob) (w : World) (h : PrIn w a b p) : Calls Tryz.prog 98 #[.agg #[.int .i64 p.labels, .int .i64 p.degree, a, b]] w fun e w' => e = .returned (.bool (prOk p)) ∧ Below w.heap.size w w' := by
  obtain ⟨w0, hw0⟩ : ∃ w0, w0 = (w).alloc (.cells #[.int .i64 p.labels, .int .i64 p.degree, a, b] 74) := ⟨_, rfl⟩
  have hb0 : Below w.heap.size w w0 := by rw [hw0]; exact ((Below.refl _ _).alloc (by simp) _)
  have hkP := h.keep hb0
  have HP := Lib.hid hkP
  obtain ⟨P0, pz0, rfl, hlP0, hmP0, hPe0⟩ := id hkP.1
  unfold maxLen at hmP0
  have HPe0 := Lib.hid hPe0
  clear hPe0
  obtain ⟨P1, pz1, rfl, hlP1, hmP1, hPe1⟩ := id hkP.2
  unfold maxLen at hmP1
  have HPe1 := Lib.hid hPe1
  clear hPe1
  clear hkP h
  have p00 : ∀ W, Since w0 W → W.cell? ⟨w.heap.size, 0, none⟩ = some (.int .i64 p.labels) := have_cell (by rw [hw0]; simp)
  have p01 : ∀ W, Since w0 W → W.cell? ⟨w.heap.size, 1, none⟩ = some (.int .i64 p.degree) := have_cell (by rw [hw0]; simp)
  have p02 : ∀ W, Since w0 W → W.cell? ⟨w.heap.size, 2, none⟩ = some (.slice P0 p.nodes.length pz0) := have_cell (by rw [hw0]; simp)
  have p03 : ∀ W, Since w0 W → W.cell? ⟨w.heap.size, 3, none⟩ = some (.slice P1 p.edges.length pz1) := have_cell (by rw [hw0]; simp)
  have Hb0 := Lib.hid hb0
  have Hw0 := Lib.hid hw0
  clear hb0 hw0
  have HPp0 := Lib.hid (show ∀ X, Since w0 X → IntSS X (.slice P0 p.nodes.length pz0) p.nodes from fun X hX => (HP.out.keep hX).1)
  have HPp1 := Lib.hid (show ∀ X, Since w0 X → IntSS X (.slice P1 p.edges.length pz1) p.edges from fun X hX => (HP.out.keep hX).2)
  go_enter Tryz.func98, Tryz.ntmps98
  go_upto_region 1 with (fail)
  rw [← Hw0.out]
  refine wp_region_flow0 25 (Since w0) (since_refl _) ?_
  simp only [List.take_succ_cons, List.take_zero, List.drop_succ_cons, List.drop_zero]
  refine flow_val (v := ?_) rfl ?_ ?_; rotate_left; (intro W hW; go_simp; with_reducible rfl)
  simp only [Act.put, List.setIfInBounds_toArray, List.set_cons_succ, List.set_cons_zero]
  refine flow_val (v := ?_) rfl ?_ ?_; rotate_left; (intro W hW; go_simp; with_reducible rfl)
  simp only [Act.put, List.setIfInBounds_toArray, List.set_cons_succ, List.set_cons_zero]
  refine flow_op ?_ rfl ?_ ?_; rotate_left; (intro W hW; unfold Gives; go_simp; (with_reducible refine (within_p _ _ _ W).mono ?_); rintro e W' ⟨rfl, hb3⟩; first | (refine ⟨?_, Since.trans hW hb3⟩; with_reducible rfl) | (subst hb3; refine ⟨?_, hW⟩; with_reducible rfl))
  simp only [Act.put, List.setIfInBounds_toArray, List.set_cons_succ, List.set_cons_zero]
  refine flow_val (v := ?_) rfl ?_ ?_; rotate_left; (intro W hW; go_simp; with_reducible rfl)
  simp only [Act.put, List.setIfInBounds_toArray, List.set_cons_succ, List.set_cons_zero]
  refine flow_gval (v := ?_) rfl rfl ?_ ?_; rotate_left; (intro hb; intro W hW; go_simp; with_reducible rfl)
  simp only [Act.put, List.setIfInBounds_toArray, List.set_cons_succ, List.set_cons_zero]
  refine flow_gval (v := ?_) rfl rfl ?_ ?_; rotate_left; (intro hb; intro W hW; go_simp; with_reducible rfl)
  simp only [Act.put, List.setIfInBounds_toArray, List.set_cons_succ, List.set_cons_zero]
  refine flow_gop (v := ?_) rfl rfl ?_ ?_; rotate_left; (intro hb; intro W hW; unfold Gives; go_simp; (with_reducible refine (within_p _ _ _ W).mono ?_); rintro e W' ⟨rfl, hb3⟩; first | (refine ⟨?_, Since.trans hW hb3⟩; with_reducible rfl) | (subst hb3; refine ⟨?_, hW⟩; with_reducible rfl))
  simp only [Act.put, List.setIfInBounds_toArray, List.set_cons_succ, List.set_cons_zero]
  first | refine flow_and rfl rfl ?_ | (refine flow_val (v := ?_) rfl ?_ ?_; rotate_left; (intro W hW; go_simp; with_reducible rfl))
  simp only [Act.put, List.setIfInBounds_toArray, List.set_cons_succ, List.set_cons_zero]
  refine flow_val (v := ?_) rfl ?_ ?_; rotate_left; (intro W hW; go_simp; with_reducible rfl)
  simp only [Act.put, List.setIfInBounds_toArray, List.set_cons_succ, List.set_cons_zero]
  refine flow_gval (v := ?_) rfl rfl ?_ ?_; rotate_left; (intro hb; intro W hW; go_simp; with_reducible rfl)
  simp only [Act.put, List.setIfInBounds_toArray, List.set_cons_succ, List.set_cons_zero]
  refine flow_gval (v := ?_) rfl rfl ?_ ?_; rotate_left; (intro hb; intro W hW; go_simp; with_reducible rfl)
  simp only [Act.put, List.setIfInBounds_toArray, List.set_cons_succ, List.set_cons_zero]
  refine flow_gval (v := ?_) rfl rfl ?_ ?_; rotate_left; (intro hb; intro W hW; go_simp; with_reducible rfl)
  simp only [Act.put, List.setIfInBounds_toArray, List.set_cons_succ, List.set_cons_zero]
  refine flow_gval (v := ?_) rfl rfl ?_ ?_; rotate_left; (intro hb; intro W hW; go_simp; with_reducible rfl)
  simp only [Act.put, List.setIfInBounds_toArray, List.set_cons_succ, List.set_cons_zero]
  refine flow_gval (v := ?_) rfl rfl ?_ ?_; rotate_left; (intro hb; intro W hW; go_simp; with_reducible rfl)
  simp only [Act.put, List.setIfInBounds_toArray, List.set_cons_succ, List.set_cons_zero]
  refine flow_gval (v := ?_) rfl rfl ?_ ?_; rotate_left; (intro hb; intro W hW; go_simp; with_reducible rfl)
  simp only [Act.put, List.setIfInBounds_toArray, List.set_cons_succ, List.set_cons_zero]
  refine flow_gop (v := ?_) rfl rfl ?_ ?_; rotate_left; (intro hb; intro W hW; unfold Gives; go_simp; (with_reducible refine (configurationsOk_any _ p.nodes p.degree p.labels W (HPp0.out W hW) (inB_iff.1 (andL hb))).mono ?_); rintro e W' ⟨rfl, hb3⟩; first | (refine ⟨?_, Since.trans hW hb3⟩; with_reducible rfl) | (subst hb3; refine ⟨?_, hW⟩; with_reducible rfl))
  simp only [Act.put, List.setIfInBounds_toArray, List.set_cons_succ, List.set_cons_zero]
  first | refine flow_and rfl rfl ?_ | (refine flow_val (v := ?_) rfl ?_ ?_; rotate_left; (intro W hW; go_simp; with_reducible rfl))
  simp only [Act.put, List.setIfInBounds_toArray, List.set_cons_succ, List.set_cons_zero]
  refine flow_val (v := ?_) rfl ?_ ?_; rotate_left; (intro W hW; go_simp; with_reducible rfl)
  simp only [Act.put, List.setIfInBounds_toArray, List.set_cons_succ, List.set_cons_zero]
  refine flow_gval (v := ?_) rfl rfl ?_ ?_; rotate_left; (intro hb; intro W hW; go_simp; with_reducible rfl)
  simp only [Act.put, List.setIfInBounds_toArray, List.set_cons_succ, List.set_cons_zero]
  refine flow_gval (v := ?_) rfl rfl ?_ ?_; rotate_left; (intro hb; intro W hW; go_simp; with_reducible rfl)
  simp only [Act.put, List.setIfInBounds_toArray, List.set_cons_succ, List.set_cons_zero]
  refine flow_gval (v := ?_) rfl rfl ?_ ?_; rotate_left; (intro hb; intro W hW; go_simp; with_reducible rfl)
  simp only [Act.put, List.setIfInBounds_toArray, List.set_cons_succ, List.set_cons_zero]
  refine flow_gval (v := ?_) rfl rfl ?_ ?_; rotate_left; (intro hb; intro W hW; go_simp; with_reducible rfl)
  simp only [Act.put, List.setIfInBounds_toArray, List.set_cons_succ, List.set_cons_zero]
  refine flow_gop (v := ?_) rfl rfl ?_ ?_; rotate_left; (intro hb; intro W hW; unfold Gives; go_simp; (with_reducible refine (configurationsOk_any _ p.edges 2 p.labels W (HPp1.out W hW) (inB_iff.1 (andL (andL hb)))).mono ?_); rintro e W' ⟨rfl, hb3⟩; first | (refine ⟨?_, Since.trans hW hb3⟩; with_reducible rfl) | (subst hb3; refine ⟨?_, hW⟩; with_reducible rfl))
  simp only [Act.put, List.setIfInBounds_toArray, List.set_cons_succ, List.set_cons_zero]
  first | refine flow_and rfl rfl ?_ | (refine flow_val (v := ?_) rfl ?_ ?_; rotate_left; (intro W hW; go_simp; with_reducible rfl))
  simp only [Act.put, List.setIfInBounds_toArray, List.set_cons_succ, List.set_cons_zero]
  refine flow_val (v := ?_) rfl ?_ ?_; rotate_left; (intro W hW; go_simp; with_reducible rfl)
  simp only [Act.put, List.setIfInBounds_toArray, List.set_cons_succ, List.set_cons_zero]
  intro W5 hW5
  have HW5 := Lib.hid (Since.after Hb0.out hW5)
  clear hW5
  have hr := Lib.hid (prOk_eq p)
  go_wp2
  go_ret
  exact ⟨ret_bool hr.out.symm, HW5.out⟩
set_option maxHeartbeats 4000000 in
theorem prGood_any (a b : Value) (p : Prob) (w : World) (h : PrIn w a b p) : Calls Tryz.prog 93 #[.agg #[.int .i64 p.labels, .int .i64 p.degree, a, b]] w fun e w' => e = .returned (.bool (prOk p)) ∧ Below w.heap.size w w' := by
  obtain ⟨w0, hw0⟩ : ∃ w0, w0 = (w).alloc (.cells #[.int .i64 p.labels, .int .i64 p.degree, a, b] 74) := ⟨_, rfl⟩
  have hb0 : Below w.heap.size w w0 := by rw [hw0]; exact ((Below.refl _ _).alloc (by simp) _)
  have hkP := h.keep hb0
  have HP := Lib.hid hkP
  obtain ⟨P0, pz0, rfl, hlP0, hmP0, hPe0⟩ := id hkP.1
  unfold maxLen at hmP0
  have HPe0 := Lib.hid hPe0
  clear hPe0
  obtain ⟨P1, pz1, rfl, hlP1, hmP1, hPe1⟩ := id hkP.2
  unfold maxLen at hmP1
  have HPe1 := Lib.hid hPe1
  clear hPe1
  clear hkP h
  have p00 : ∀ W, Since w0 W → W.cell? ⟨w.heap.size, 0, none⟩ = some (.int .i64 p.labels) := have_cell (by rw [hw0]; simp)
  have p01 : ∀ W, Since w0 W → W.cell? ⟨w.heap.size, 1, none⟩ = some (.int .i64 p.degree) := have_cell (by rw [hw0]; simp)
  have p02 : ∀ W, Since w0 W → W.cell? ⟨w.heap.size, 2, none⟩ = some (.slice P0 p.nodes.length pz0) := have_cell (by rw [hw0]; simp)
  have p03 : ∀ W, Since w0 W → W.cell? ⟨w.heap.size, 3, none⟩ = some (.slice P1 p.edges.length pz1) := have_cell (by rw [hw0]; simp)
  have Hb0 := Lib.hid hb0
  have Hw0 := Lib.hid hw0
  clear hb0 hw0
  have HPp0 := Lib.hid (show ∀ X, Since w0 X → IntSS X (.slice P0 p.nodes.length pz0) p.nodes from fun X hX => (HP.out.keep hX).1)
  have HPp1 := Lib.hid (show ∀ X, Since w0 X → IntSS X (.slice P1 p.edges.length pz1) p.edges from fun X hX => (HP.out.keep hX).2)
  go_enter Tryz.func93, Tryz.ntmps93
  go_upto_region 1 with (fail)
  rw [← Hw0.out]
  refine wp_region_flow0 25 (Since w0) (since_refl _) ?_
  simp only [List.take_succ_cons, List.take_zero, List.drop_succ_cons, List.drop_zero]
  refine flow_val (v := ?_) rfl ?_ ?_; rotate_left; (intro W hW; go_simp; with_reducible rfl)
  simp only [Act.put, List.setIfInBounds_toArray, List.set_cons_succ, List.set_cons_zero]
  refine flow_val (v := ?_) rfl ?_ ?_; rotate_left; (intro W hW; go_simp; with_reducible rfl)
  simp only [Act.put, List.setIfInBounds_toArray, List.set_cons_succ, List.set_cons_zero]
  refine flow_op ?_ rfl ?_ ?_; rotate_left; (intro W hW; unfold Gives; go_simp; (with_reducible refine (l1In_p _ _ _ W).mono ?_); rintro e W' ⟨rfl, hb3⟩; first | (refine ⟨?_, Since.trans hW hb3⟩; with_reducible rfl) | (subst hb3; refine ⟨?_, hW⟩; with_reducible rfl))
  simp only [Act.put, List.setIfInBounds_toArray, List.set_cons_succ, List.set_cons_zero]
  refine flow_val (v := ?_) rfl ?_ ?_; rotate_left; (intro W hW; go_simp; with_reducible rfl)
  simp only [Act.put, List.setIfInBounds_toArray, List.set_cons_succ, List.set_cons_zero]
  refine flow_gval (v := ?_) rfl rfl ?_ ?_; rotate_left; (intro hb; intro W hW; go_simp; with_reducible rfl)
  simp only [Act.put, List.setIfInBounds_toArray, List.set_cons_succ, List.set_cons_zero]
  refine flow_gval (v := ?_) rfl rfl ?_ ?_; rotate_left; (intro hb; intro W hW; go_simp; with_reducible rfl)
  simp only [Act.put, List.setIfInBounds_toArray, List.set_cons_succ, List.set_cons_zero]
  refine flow_gop (v := ?_) rfl rfl ?_ ?_; rotate_left; (intro hb; intro W hW; unfold Gives; go_simp; (with_reducible refine (l1In_p _ _ _ W).mono ?_); rintro e W' ⟨rfl, hb3⟩; first | (refine ⟨?_, Since.trans hW hb3⟩; with_reducible rfl) | (subst hb3; refine ⟨?_, hW⟩; with_reducible rfl))
  simp only [Act.put, List.setIfInBounds_toArray, List.set_cons_succ, List.set_cons_zero]
  first | refine flow_and rfl rfl ?_ | (refine flow_val (v := ?_) rfl ?_ ?_; rotate_left; (intro W hW; go_simp; with_reducible rfl))
  simp only [Act.put, List.setIfInBounds_toArray, List.set_cons_succ, List.set_cons_zero]
  refine flow_val (v := ?_) rfl ?_ ?_; rotate_left; (intro W hW; go_simp; with_reducible rfl)
  simp only [Act.put, List.setIfInBounds_toArray, List.set_cons_succ, List.set_cons_zero]
  refine flow_gval (v := ?_) rfl rfl ?_ ?_; rotate_left; (intro hb; intro W hW; go_simp; with_reducible rfl)
  simp only [Act.put, List.setIfInBounds_toArray, List.set_cons_succ, List.set_cons_zero]
  refine flow_gval (v := ?_) rfl rfl ?_ ?_; rotate_left; (intro hb; intro W hW; go_simp; with_reducible rfl)
  simp only [Act.put, List.setIfInBounds_toArray, List.set_cons_succ, List.set_cons_zero]
  refine flow_gval (v := ?_) rfl rfl ?_ ?_; rotate_left; (intro hb; intro W hW; go_simp; with_reducible rfl)
  simp only [Act.put, List.setIfInBounds_toArray, List.set_cons_succ, List.set_cons_zero]
  refine flow_gval (v := ?_) rfl rfl ?_ ?_; rotate_left; (intro hb; intro W hW; go_simp; with_reducible rfl)
  simp only [Act.put, List.setIfInBounds_toArray, List.set_cons_succ, List.set_cons_zero]
  refine flow_gval (v := ?_) rfl rfl ?_ ?_; rotate_left; (intro hb; intro W hW; go_simp; with_reducible rfl)
  simp only [Act.put, List.setIfInBounds_toArray, List.set_cons_succ, List.set_cons_zero]
  refine flow_gval (v := ?_) rfl rfl ?_ ?_; rotate_left; (intro hb; intro W hW; go_simp; with_reducible rfl)
  simp only [Act.put, List.setIfInBounds_toArray, List.set_cons_succ, List.set_cons_zero]
  refine flow_gop (v := ?_) rfl rfl ?_ ?_; rotate_left; (intro hb; intro W hW; unfold Gives; go_simp; (with_reducible refine (prLists_any _ p.nodes p.degree p.labels W (HPp0.out W hW) (inB_iff.1 (andR hb)) (inB_iff.1 (andL hb))).mono ?_); rintro e W' ⟨rfl, hb3⟩; first | (refine ⟨?_, Since.trans hW hb3⟩; with_reducible rfl) | (subst hb3; refine ⟨?_, hW⟩; with_reducible rfl))
  simp only [Act.put, List.setIfInBounds_toArray, List.set_cons_succ, List.set_cons_zero]
  first | refine flow_and rfl rfl ?_ | (refine flow_val (v := ?_) rfl ?_ ?_; rotate_left; (intro W hW; go_simp; with_reducible rfl))
  simp only [Act.put, List.setIfInBounds_toArray, List.set_cons_succ, List.set_cons_zero]
  refine flow_val (v := ?_) rfl ?_ ?_; rotate_left; (intro W hW; go_simp; with_reducible rfl)
  simp only [Act.put, List.setIfInBounds_toArray, List.set_cons_succ, List.set_cons_zero]
  refine flow_gval (v := ?_) rfl rfl ?_ ?_; rotate_left; (intro hb; intro W hW; go_simp; with_reducible rfl)
  simp only [Act.put, List.setIfInBounds_toArray, List.set_cons_succ, List.set_cons_zero]
  refine flow_gval (v := ?_) rfl rfl ?_ ?_; rotate_left; (intro hb; intro W hW; go_simp; with_reducible rfl)
  simp only [Act.put, List.setIfInBounds_toArray, List.set_cons_succ, List.set_cons_zero]
  refine flow_gval (v := ?_) rfl rfl ?_ ?_; rotate_left; (intro hb; intro W hW; go_simp; with_reducible rfl)
  simp only [Act.put, List.setIfInBounds_toArray, List.set_cons_succ, List.set_cons_zero]
  refine flow_gval (v := ?_) rfl rfl ?_ ?_; rotate_left; (intro hb; intro W hW; go_simp; with_reducible rfl)
  simp only [Act.put, List.setIfInBounds_toArray, List.set_cons_succ, List.set_cons_zero]
  refine flow_gop (v := ?_) rfl rfl ?_ ?_; rotate_left; (intro hb; intro W hW; unfold Gives; go_simp; (with_reducible refine (prLists_any _ p.edges 2 p.labels W (HPp1.out W hW) ⟨by omega, by omega⟩ (inB_iff.1 (andL (andL hb)))).mono ?_); rintro e W' ⟨rfl, hb3⟩; first | (refine ⟨?_, Since.trans hW hb3⟩; with_reducible rfl) | (subst hb3; refine ⟨?_, hW⟩; with_reducible rfl))
  simp only [Act.put, List.setIfInBounds_toArray, List.set_cons_succ, List.set_cons_zero]
  first | refine flow_and rfl rfl ?_ | (refine flow_val (v := ?_) rfl ?_ ?_; rotate_left; (intro W hW; go_simp; with_reducible rfl))
  simp only [Act.put, List.setIfInBounds_toArray, List.set_cons_succ, List.set_cons_zero]
  refine flow_val (v := ?_) rfl ?_ ?_; rotate_left; (intro W hW; go_simp; with_reducible rfl)
  simp only [Act.put, List.setIfInBounds_toArray, List.set_cons_succ, List.set_cons_zero]
  intro W5 hW5
  have HW5 := Lib.hid (Since.after Hb0.out hW5)
  clear hW5
  have hr := Lib.hid (prOk_eq p)
  go_wp2
  go_ret
  exact ⟨ret_bool hr.out.symm, HW5.out⟩
theorem InsInv.at_ {orig l : List Int} {i k : Nat} (h : InsInv orig l i k) : k ≤ i ∧ i < l.length ∧ l.length = orig.length := by
  obtain ⟨h1, h2, h3⟩ := ins_len h
  exact ⟨h2, h3, h1⟩
set_option maxHeartbeats 4000000 in
theorem prSorted_any (v : Value) (xs : List Int) (w : World) (h : IntS w v xs) (hl : xs.length ≤ 1000000) :
    Calls Tryz.prog 258 #[v] w fun e w' => ∃ u, e = .returned u ∧ Own w' w.heap.size u (sortI xs) ∧ Below w.heap.size w w' := by
  have H := Lib.hid h
  obtain ⟨A, c, rfl, hlc, hm, hA⟩ := h
  have hok : ∀ l : List Int, l.Perm xs → l.length = xs.length := fun l hp => hp.length_eq
  have Hok := Lib.hid hok
  clear hA hok
  go_enter Tryz.func258, Tryz.ntmps258
  go_upto_region 2 with (go_at_call 171; refine (l1Own_all _ xs _ H.out (by omega)).mono ?_; rintro e w1 ⟨u1, rfl, ho1, hb1⟩)
  rcases ho1.cases with ⟨rfl, h0⟩ | ⟨g, cg, rfl, hg1, hg2⟩
  · have Ho1 := Lib.hid ho1
    have Hb1 := Lib.hid hb1
    have hx0 : xs.length = 0 := by rw [h0]; rfl
    have Hs : Hid (sortI xs = []) := by show _ = _; rw [h0]; exact List.mergeSort_nil
    have H0 := Lib.hid h0
    clear ho1 hb1 h0
    go_wp2
    go_loopw [11] (fun i wr => i = .int .i64 0 ∧ wr = w1) (fun _ _ => 0)
    case atStart => exact ⟨rfl, rfl⟩
    case round =>
      obtain ⟨rfl, rfl⟩ := hrel
      go_wp2
      go_ret
      exact ⟨_, rfl, by rw [Hs.out]; exact own_nil _ _, Hb1.out⟩
  · have Ho1 := Lib.hid ho1
    have Hb1 := Lib.hid hb1
    clear ho1 hb1
    go_wp2
    go_loopw [11] (fun i wr => ∃ (k : Nat) (l : List Int), k ≤ xs.length ∧ i = .int .i64 k ∧ SortedTo xs l k ∧ Own wr w.heap.size (.slice (some ⟨g, 0, none⟩) xs.length cg) l ∧ Below w.heap.size w wr) (fun i _ => xs.length - (intOf i).toNat)
    case atStart => exact ⟨0, xs, Nat.zero_le _, rfl, ⟨by simp, List.Perm.refl _⟩, Ho1.out, Hb1.out⟩
    case round =>
      obtain ⟨i, l, hi, rfl, hst, ho, hb⟩ := hrel
      have Hst := Lib.hid hst
      have Ho := Lib.hid ho
      have Hb := Lib.hid hb
      clear hst ho hb
      by_cases hlt : i < xs.length
      · go_upto_region 6 with (fail)
        go_loopw [5] (fun p wr => ∃ (k : Nat) (l : List Int), k ≤ i ∧ p = .int .i64 k ∧ InsInv xs l i k ∧ Own wr w.heap.size (.slice (some ⟨g, 0, none⟩) xs.length cg) l ∧ Below w.heap.size w wr) (fun p _ => (intOf p).toNat)
        case atStart => exact ⟨i, l, Nat.le_refl _, rfl, ins_start Hst.out (by rw [Hok.out l Hst.out.2]; exact hlt), Ho.out, Hb.out⟩
        case round =>
          obtain ⟨k, l, hk, rfl, hin, ho, hb⟩ := hrel
          have Hin := Lib.hid hin
          have Ho := Lib.hid ho
          have Hb := Lib.hid hb
          have hll := (InsInv.at_ hin).2.2
          have hll2 : Hid (l.length = xs.length) := hll
          obtain ⟨x, hx⟩ := getx l k (by omega)
          have Hx := Lib.hid hx
          have k1 := have_cell (ho.cell hx)
          have fx := ho.free k
          clear hin ho hb hx hll
          rcases Nat.eq_zero_or_pos k with h0 | h0
          · subst h0
            go_upto_region 6 with (fail)
            refine wp_region_flow 14 (Since wr) (by kernel_rfl) (by kernel_rfl) (by simp) (since_drew (since_refl _)) ?_
            simp only [List.take_succ_cons, List.take_zero, List.drop_succ_cons, List.drop_zero]
            refine flow_val (v := ?_) rfl ?_ ?_; rotate_left; (intro W hW; go_simp; with_reducible rfl)
            simp only [Act.put, List.setIfInBounds_toArray, List.set_cons_succ, List.set_cons_zero]
            refine flow_val (v := ?_) rfl ?_ ?_; rotate_left; (intro W hW; go_simp; with_reducible rfl)
            simp only [Act.put, List.setIfInBounds_toArray, List.set_cons_succ, List.set_cons_zero]
            refine flow_val (v := ?_) rfl ?_ ?_; rotate_left; (intro W hW; go_simp; with_reducible rfl)
            simp only [Act.put, List.setIfInBounds_toArray, List.set_cons_succ, List.set_cons_zero]
            refine flow_dead rfl rfl (by simp [*]) ?_
            simp only [Act.put, List.setIfInBounds_toArray, List.set_cons_succ, List.set_cons_zero]
            refine flow_dead rfl rfl (by simp [*]) ?_
            simp only [Act.put, List.setIfInBounds_toArray, List.set_cons_succ, List.set_cons_zero]
            refine flow_dead rfl rfl (by simp [*]) ?_
            simp only [Act.put, List.setIfInBounds_toArray, List.set_cons_succ, List.set_cons_zero]
            refine flow_dead rfl rfl (by simp [*]) ?_
            simp only [Act.put, List.setIfInBounds_toArray, List.set_cons_succ, List.set_cons_zero]
            refine flow_dead rfl rfl (by simp [*]) ?_
            simp only [Act.put, List.setIfInBounds_toArray, List.set_cons_succ, List.set_cons_zero]
            refine flow_dead rfl rfl (by simp [*]) ?_
            simp only [Act.put, List.setIfInBounds_toArray, List.set_cons_succ, List.set_cons_zero]
            refine flow_dead rfl rfl (by simp [*]) ?_
            simp only [Act.put, List.setIfInBounds_toArray, List.set_cons_succ, List.set_cons_zero]
            refine flow_dead rfl rfl (by simp [*]) ?_
            simp only [Act.put, List.setIfInBounds_toArray, List.set_cons_succ, List.set_cons_zero]
            refine flow_dead rfl rfl (by simp [*]) ?_
            simp only [Act.put, List.setIfInBounds_toArray, List.set_cons_succ, List.set_cons_zero]
            refine flow_dead rfl rfl (by simp [*]) ?_
            simp only [Act.put, List.setIfInBounds_toArray, List.set_cons_succ, List.set_cons_zero]
            first | refine flow_and rfl rfl ?_ | (refine flow_val (v := ?_) rfl ?_ ?_; rotate_left; (intro W hW; go_simp; with_reducible rfl))
            simp only [Act.put, List.setIfInBounds_toArray, List.set_cons_succ, List.set_cons_zero]
            intro W5 hW5
            have HW5 := Lib.hid (Hb.out.trans (hW5.mono Hb.out.size))
            have HO5 := Lib.hid (Ho.out.keep hW5)
            clear hW5 k1 fx
            go_wp2
            go_roundw
            case rel => exact ⟨i + 1, l, by omega, by go_num, ins_done Hin.out (.inl rfl), HO5.out, HW5.out⟩
            case measure => simp [intOf]; omega
          · obtain ⟨m, rfl⟩ : ∃ m, k = m + 1 := ⟨k - 1, by omega⟩
            obtain ⟨y, hy⟩ := getx l m (by have := hll2.out; omega)
            have Hy := Lib.hid hy
            have k2 := have_cell (Ho.out.cell hy)
            have fy := Ho.out.free m
            clear hy
            have wm : IntKind.i64.wrap (m : Int) = (m : Int) := wr64 _ (by omega) (by omega)
            have wm1 : IntKind.i64.wrap (((m + 1 : Nat) : Int) - 1) = (m : Int) := by rw [wr64 _ (by omega) (by omega)]; omega
            have hm1 : (m : Int) < xs.length := by omega
            have hm2 : (m : Int) + 1 < xs.length := by omega
            have hm3 : (0 : Int) ≤ (m : Int) + 1 := by omega
            have hm4 : (0 : Int) < (m : Int) + 1 := by omega
            go_upto_region 6 with (fail)
            refine wp_region_flow 14 (Since wr) (by kernel_rfl) (by kernel_rfl) (by simp) (since_drew (since_refl _)) ?_
            simp only [List.take_succ_cons, List.take_zero, List.drop_succ_cons, List.drop_zero]
            refine flow_val (v := ?_) rfl ?_ ?_; rotate_left; (intro W hW; go_simp; with_reducible rfl)
            simp only [Act.put, List.setIfInBounds_toArray, List.set_cons_succ, List.set_cons_zero]
            refine flow_val (v := ?_) rfl ?_ ?_; rotate_left; (intro W hW; go_simp; with_reducible rfl)
            simp only [Act.put, List.setIfInBounds_toArray, List.set_cons_succ, List.set_cons_zero]
            refine flow_val (v := ?_) rfl ?_ ?_; rotate_left; (intro W hW; go_simp; with_reducible rfl)
            simp only [Act.put, List.setIfInBounds_toArray, List.set_cons_succ, List.set_cons_zero]
            refine flow_gval (v := ?_) rfl rfl ?_ ?_; rotate_left; (intro hb; intro W hW; go_simp; with_reducible rfl)
            simp only [Act.put, List.setIfInBounds_toArray, List.set_cons_succ, List.set_cons_zero]
            refine flow_gval (v := ?_) rfl rfl ?_ ?_; rotate_left; (intro hb; intro W hW; go_simp; with_reducible rfl)
            simp only [Act.put, List.setIfInBounds_toArray, List.set_cons_succ, List.set_cons_zero]
            refine flow_gval (v := ?_) rfl rfl ?_ ?_; rotate_left; (intro hb; intro W hW; go_simp; with_reducible rfl)
            simp only [Act.put, List.setIfInBounds_toArray, List.set_cons_succ, List.set_cons_zero]
            refine flow_gval (v := ?_) rfl rfl ?_ ?_; rotate_left; (intro hb; intro W hW; go_simp; with_reducible rfl)
            simp only [Act.put, List.setIfInBounds_toArray, List.set_cons_succ, List.set_cons_zero]
            refine flow_gval (v := ?_) rfl rfl ?_ ?_; rotate_left; (intro hb; intro W hW; go_simp; with_reducible rfl)
            simp only [Act.put, List.setIfInBounds_toArray, List.set_cons_succ, List.set_cons_zero]
            refine flow_gval (v := ?_) rfl rfl ?_ ?_; rotate_left; (intro hb; intro W hW; go_simp; with_reducible rfl)
            simp only [Act.put, List.setIfInBounds_toArray, List.set_cons_succ, List.set_cons_zero]
            refine flow_gval (v := ?_) rfl rfl ?_ ?_; rotate_left; (intro hb; intro W hW; go_simp; with_reducible rfl)
            simp only [Act.put, List.setIfInBounds_toArray, List.set_cons_succ, List.set_cons_zero]
            refine flow_gval (v := ?_) rfl rfl ?_ ?_; rotate_left; (intro hb; intro W hW; go_simp; with_reducible rfl)
            simp only [Act.put, List.setIfInBounds_toArray, List.set_cons_succ, List.set_cons_zero]
            refine flow_gval (v := ?_) rfl rfl ?_ ?_; rotate_left; (intro hb; intro W hW; go_simp; with_reducible rfl)
            simp only [Act.put, List.setIfInBounds_toArray, List.set_cons_succ, List.set_cons_zero]
            refine flow_gval (v := ?_) rfl rfl ?_ ?_; rotate_left; (intro hb; intro W hW; go_simp; with_reducible rfl)
            simp only [Act.put, List.setIfInBounds_toArray, List.set_cons_succ, List.set_cons_zero]
            first | refine flow_and rfl rfl ?_ | (refine flow_val (v := ?_) rfl ?_ ?_; rotate_left; (intro W hW; go_simp; with_reducible rfl))
            simp only [Act.put, List.setIfInBounds_toArray, List.set_cons_succ, List.set_cons_zero]
            intro W5 hW5
            have HO5 := Lib.hid (Ho.out.keep hW5)
            have HB5 := Lib.hid (Hb.out.trans (hW5.mono Hb.out.size))
            clear fx fy k1 k2
            have k1 := HO5.out.cell Hx.out
            have k2 := HO5.out.cell Hy.out
            have fx := HO5.out.free (m + 1)
            have fy := HO5.out.free m
            clear hW5
            by_cases hyx : y > x
            · have hd : decide (x < y) = true := by simpa using hyx
              have hd2 : decide (y > x) = true := hd
              have HN := Lib.hid ((HO5.out.set (k := m + 1) y).set (k := m) x)
              have HBN := Lib.hid ((HB5.out.setCell (p := ⟨g, m + 1, none⟩) hg1 (.int .i64 y)).setCell (p := ⟨g, m, none⟩) hg1 (.int .i64 x))
              go_wp2
              go_roundw
              case rel => exact ⟨m, _, by omega, by go_num, ins_swap Hin.out Hy.out Hx.out hyx, HN.out, HBN.out⟩
              case measure => simp [intOf]
              rename_i hh
              rcases hh with hh | hh
              · cases hh
              · omega
            · have hd : decide (x < y) = false := by simpa using hyx
              have hd2 : decide (y > x) = false := hd
              go_wp2
              go_roundw
              case rel => exact ⟨i + 1, l, by omega, by go_num, ins_done Hin.out (.inr ⟨y, x, Hy.out, Hx.out, by omega⟩), HO5.out, HB5.out⟩
              case measure => simp [intOf]; omega
      · obtain rfl : i = xs.length := by omega
        have Hs : Hid (l = sortI xs) := sorted_all (by rw [Hok.out l Hst.out.2]; exact Hst.out)
        go_wp2
        go_ret
        exact ⟨_, rfl, by rw [← Hs.out]; exact Ho.out, Hb.out⟩
end Go.Proofs.YtomnaabadohecaaGreat
namespace Go.Proofs.YtomnaabadohecaaGreat
open Go.RowKit
/-- the number of binary digits -/
def bl (n : Nat) : Nat := if n = 0 then 0 else bl (n / 2) + 1
theorem bl_pos {n : Nat} (h : 0 < n) : bl n = bl (n / 2) + 1 := by rw [bl, if_neg (by omega)]
theorem bl_zero : bl 0 = 0 := by rw [bl]; simp
theorem bl_le (n : Nat) : bl n ≤ n := by
  induction n using Nat.strongRecOn with
  | ind n ih =>
    by_cases h : n = 0
    · subst h; simp [bl_zero]
    · rw [bl_pos (by omega)]
      have := ih (n / 2) (by omega)
      omega
theorem bl_mono {m n : Nat} (h : m ≤ n) : bl m ≤ bl n := by
  induction n using Nat.strongRecOn generalizing m with
  | ind n ih =>
    by_cases h0 : m = 0
    · subst h0; rw [bl_zero]; omega
    · rw [bl_pos (show 0 < m by omega), bl_pos (show 0 < n by omega)]
      have := ih (n / 2) (by omega) (show m / 2 ≤ n / 2 by omega)
      omega
theorem bl_max (m n : Nat) : bl (max m n) = max (bl m) (bl n) := by
  rcases Nat.le_total m n with h | h
  · have := bl_mono h; rw [Nat.max_eq_right h, Nat.max_eq_right this]
  · have := bl_mono h; rw [Nat.max_eq_left h, Nat.max_eq_left this]
theorem l1Most_any (a b : Int) (w : World) : Calls Tryz.prog 261 #[.int .i64 a, .int .i64 b] w fun e w' => e = .returned (.int .i64 (max a b)) ∧ w = w' := by
  by_cases h : b < a
  · have hm : max a b = a := by omega
    rw [hm]
    go_enter Tryz.func261, Tryz.ntmps261
    go_wp2
    go_ret
    exact ⟨rfl, rfl⟩
  · have hm : max a b = b := by omega
    rw [hm]
    go_enter Tryz.func261, Tryz.ntmps261
    go_wp2
    go_ret
    exact ⟨rfl, rfl⟩
def mostL (xs : List Int) : Int := xs.foldl max 0
theorem mostL_nonneg (xs : List Int) : 0 ≤ mostL xs := by
  have : ∀ (l : List Int) (a : Int), 0 ≤ a → 0 ≤ l.foldl max a := by
    intro l
    induction l with
    | nil => intro a h; exact h
    | cons x l ih => intro a h; exact ih _ (by omega)
  exact this xs 0 (Int.le_refl _)
theorem mostL_le (xs : List Int) (M : Int) (hM : 0 ≤ M) (h : ∀ x ∈ xs, x ≤ M) : mostL xs ≤ M := by
  have : ∀ (l : List Int) (a : Int), a ≤ M → (∀ x ∈ l, x ≤ M) → l.foldl max a ≤ M := by
    intro l
    induction l with
    | nil => intro a h _; exact h
    | cons x l ih => intro a h hx; exact ih _ (by have := hx x (by simp); omega) (fun y hy => hx y (by simp [hy]))
  exact this xs 0 hM h
theorem mostL_snoc (xs : List Int) (x : Int) : mostL (xs ++ [x]) = max (mostL xs) x := by simp [mostL, List.foldl_append]
/-- ProofBits -/
def pbits (xs : List Int) : Int × Bool := if xs.length ≤ 40 ∧ xs.all (inB 0 999999999999) = true then ((bl (mostL xs).toNat : Nat), true) else (0, false)
end Go.Proofs.YtomnaabadohecaaGreat
