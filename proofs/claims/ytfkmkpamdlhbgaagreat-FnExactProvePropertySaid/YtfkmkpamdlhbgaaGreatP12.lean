/- Parts of the proof: walks of functions and plain laws. -/
import Derived.Test.YtfkmkpamdlhbgaaGreatP3
import Derived.Test.YtfkmkpamdlhbgaaGreatP7
import Derived.Test.YtfkmkpamdlhbgaaGreatP11
import Derived.Test.YtfkmkpamdlhbgaaGreatP8
import Derived.WalkSpells
import Derived.Test.YtfkmkpamdlhbgaaGreatP5
import Derived.Test.YtfkmkpamdlhbgaaGreatP2
import Derived.Test.YtfkmkpamdlhbgaaGreatP9
namespace Go.Proofs.YtfkmkpamdlhbgaaGreat
open Go.RowKit
/-! what copies of networks need -/
/-- the first k blocks of a world -/
def trunc (w : World) (k : Nat) : World := { w with heap := w.heap.extract 0 k }
theorem trunc_size (w : World) {k : Nat} (hk : k ≤ w.heap.size) : (trunc w k).heap.size = k := by simp [trunc]; omega
theorem trunc_since (w : World) {k : Nat} (hk : k ≤ w.heap.size) : Since (trunc w k) w := by
  refine ⟨rfl, rfl, rfl, by rw [trunc_size w hk]; exact hk, fun i hi => ?_⟩
  rw [trunc_size w hk] at hi
  simp [trunc, Array.getElem?_extract]
  omega
theorem since_trunc {w0 w : World} {k : Nat} (h : Since w0 w) (hk : k ≤ w.heap.size) (h0 : w0.heap.size ≤ k) : Since w0 (trunc w k) := by
  refine ⟨h.os, h.tape, h.output, by rw [trunc_size w hk]; exact h0, fun i hi => ?_⟩
  have := h.block i hi
  simp only [trunc, Array.getElem?_extract]
  rw [if_pos (by omega)]
  simpa using this
/-- a box of a network, its type too -/
def BoxN (W : World) (b : Nat) (x y z : Value) : Prop := W.heap[b]? = some (.cells #[x, y, z] 27)
theorem BoxN.box {W : World} {b : Nat} {x y z : Value} (h : BoxN W b x y z) : Box3 W b x y z := ⟨_, h⟩
theorem BoxN.lt {W : World} {b : Nat} {x y z : Value} (h : BoxN W b x y z) : b < W.heap.size := (Array.getElem?_eq_some_iff.1 h).1
theorem BoxN.since {W W' : World} {b : Nat} {x y z : Value} (h : BoxN W b x y z) (hs : Since W W') : BoxN W' b x y z := (hs.block b h.lt).trans h
def NewB (W : World) (B : Nat) (u : Value) : Prop := ∃ b, u = .pointer (some ⟨b, 0, none⟩) ∧ B ≤ b ∧ BoxN W b (.slice none 0 0) (.slice none 0 0) (.slice none 0 0)
theorem NewB.keep {W W' : World} {B : Nat} {u : Value} (h : NewB W B u) (hs : Since W W') : NewB W' B u := by
  obtain ⟨b, h1, h2, h3⟩ := h
  exact ⟨b, h1, h2, h3.since hs⟩
theorem NewB.new (W : World) {B : Nat} (h : B ≤ W.heap.size) : NewB (W.alloc (.cells #[.slice none 0 0, .slice none 0 0, .slice none 0 0] 27)) B (.pointer (some ⟨W.heap.size, 0, none⟩)) :=
  ⟨_, rfl, h, by show (W.heap.push _)[W.heap.size]? = _; rw [Array.getElem?_push_size]⟩
def NewRows (W : World) (B n : Nat) (u : Value) : Prop := ∃ g, u = .slice (some ⟨g, 0, none⟩) n n ∧ B ≤ g ∧ OwnEE W B (.slice (some ⟨g, 0, none⟩) n n) (List.replicate n []) [g]
theorem NewRows.keep {W W' : World} {B n : Nat} {u : Value} (h : NewRows W B n u) (hs : Since W W') : NewRows W' B n u := by
  obtain ⟨g, h1, h2, h3⟩ := h
  exact ⟨g, h1, h2, lawEE.keep h3 hs.below⟩
theorem own_neN {W : World} {base b : Nat} {v x y z : Value} {xs : List Int} (h : Own W base v xs) (hb : BoxN W b x y z) : v.ownBlock ≠ some b := by
  rcases h.2 with ⟨rfl, _⟩ | ⟨g, cap, cur, rfl, _, hc, _⟩
  · simp [Value.ownBlock]
  · intro e
    simp [Value.ownBlock] at e
    subst e
    unfold BoxN at hb
    rw [hb] at hc
    simp at hc
/-- a row of rows, one row more -/
theorem OwnRows.snocC {β : Type} {R : World → Nat → Value → β → List Nat → Prop} {e : TypeId} (L : RowLaw R) {w w' : World} {base g cap : Nat} {v u : Value} {xs : List β} {x : β} {S T : List Nat} (h : OwnRows e R w base v xs S) (hu : R w base u x T) (hd : ∀ j ∈ T, j ∉ S)
    (vs : List Value) (Ss : List (List Nat)) (h1 : w.ownsRow base e 1 v xs.length vs) (h2 : Ss.length = xs.length) (h3 : ∀ (k : Nat) u x T, vs[k]? = some u → xs[k]? = some x → Ss[k]? = some T → R w base u x T) (h4 : S = v.ownBlock.toList ++ Ss.flatten) (h5 : S.Nodup)
    (q1 : w'.ownsRow base e 1 (.slice (some ⟨g, 0, none⟩) (xs.length + 1) cap) (xs.length + 1) (vs ++ [u])) (q2 : w.grownBy w' v.ownBlock) (q3 : v.ownBlock = some g ∨ g = w.heap.size) :
    ∃ S', OwnRows e R w' base (.slice (some ⟨g, 0, none⟩) (xs.length + 1) cap) (xs ++ [x]) S' ∧ (∀ j ∈ S', j ∈ S ∨ j ∈ T ∨ j = w.heap.size) := by
  have hS := (rows_law e L).range h
  have hTr := L.range hu
  have hvl : vs.length = xs.length := by simpa using h1.1
  have h5' := h5
  rw [h4, List.nodup_append] at h5'
  have hin : ∀ j ∈ Ss.flatten, j ∈ S := fun j hj => by rw [h4]; exact List.mem_append_right _ hj
  have hon := Only.of_grown q2
  have hnv : ∀ j ∈ Ss.flatten, j ∉ v.ownBlock.toList := fun j hj hv => h5'.2.2 j hv j hj rfl
  have hTv : ∀ j ∈ T, j ∉ v.ownBlock.toList := fun j hj hv => hd j hj (by rw [h4]; exact List.mem_append_left _ hv)
  have hg : g ∉ Ss.flatten := fun hg => by
    rcases q3 with q3 | q3
    · exact hnv g hg (by rw [q3]; simp)
    · have := (hS g (hin g hg)).2; omega
  have hgT : g ∉ T := fun hg => by
    rcases q3 with q3 | q3
    · exact hTv g hg (by rw [q3]; simp)
    · have := (hTr g hg).2; omega
  refine ⟨[g] ++ (Ss ++ [T]).flatten, ⟨vs ++ [u], Ss ++ [T], ?_, by simp [h2], ?_, by simp [Value.ownBlock], ?_⟩, ?_⟩
  · rw [List.length_append]; exact q1
  · intro k u' x' T' hu' hx' hT'
    rcases Nat.lt_or_ge k xs.length with hk | hk
    · rw [List.getElem?_append_left (by omega)] at hu' hx' hT'
      exact L.only (h3 k u' x' T' hu' hx' hT') hon (fun j hj => hnv j (List.mem_flatten.2 ⟨T', List.mem_of_getElem? hT', hj⟩))
    · have hk1 : k = xs.length := by
        have := lt_of_get hx'
        simp at this; omega
      subst hk1
      rw [List.getElem?_append_right (Nat.le_refl _), Nat.sub_self] at hx'
      rw [← hvl, List.getElem?_append_right (Nat.le_refl _), Nat.sub_self] at hu'
      rw [← h2, List.getElem?_append_right (Nat.le_refl _), Nat.sub_self] at hT'
      simp at hu' hx' hT'
      subst hu' hx' hT'
      exact L.only hu hon hTv
  · rw [List.flatten_append, List.nodup_append]
    refine ⟨by simp, ?_, ?_⟩
    · rw [List.nodup_append]
      refine ⟨h5'.2.1, by simpa using L.nodup hu, ?_⟩
      intro a ha b hb e
      simp at hb
      subst e
      exact hd a hb (hin a ha)
    · intro a ha b hb e
      simp at ha
      subst e ha
      rcases List.mem_append.1 hb with hb | hb
      · exact hg hb
      · simp at hb; exact hgT hb
  · intro j hj
    rw [List.flatten_append] at hj
    rcases List.mem_append.1 hj with hj | hj
    · simp at hj
      subst hj
      rcases q3 with q3 | q3
      · left; rw [h4, q3]; simp
      · exact .inr (.inr q3)
    · rcases List.mem_append.1 hj with hj | hj
      · exact .inl (hin j hj)
      · simp at hj; exact .inr (.inl hj)
/-- append of a row to a network's ends -/
theorem app_rowN {w wT : World} {ops : Array Oper} {rest : List Oper} {o : Oper} {a : Act} {Q : Exit → Act → World → Prop} (hgd : o.guard = none) (s x : Operand)
    (ho : o.op = .call { callee := .builtin .append, args := #[s, x], argTypes := #[24, 24] }) {base : Nat} {v ui un u : Value} {N : Net} {S T : List Nat} {es : List (Int × Int)} (hs : a.eval s = v) (h : OwnNet w base v ui un N S)
    (b : Nat) (hx : a.eval x = .slice (some ⟨b, 0, none⟩) 1 1) (hc : w.cell? ⟨b, 0, none⟩ = some u) (hu : OwnE w base u es T) (hd : ∀ j ∈ T, j ∉ S) (hl : N.ends.length + 1 ≤ 1000000) (hsn : Since wT w) (hbs : base ≤ w.heap.size) (hvT : ∀ q, v.ownBlock = some q → wT.heap.size ≤ q)
    (k : ∀ v' w' S', (∀ q, v'.ownBlock = some q → v.ownBlock = some q ∨ q = w.heap.size) → OwnNet w' base v' ui un { N with ends := N.ends ++ [es] } S' → (∀ j ∈ S', j ∈ S ∨ j ∈ T ∨ j = w.heap.size) → Only S w w' → Since wT w' → wpList Tryz.prog ops Q rest (a.put o.dst v') w') : wpList Tryz.prog ops Q (o :: rest) a w := by
  obtain ⟨i0, hi, hz0, hz1, hz2⟩ := info_parts es_info
  have hrg := h.range
  obtain ⟨S1, S2, S3, h1, h2, h3, h4, h5⟩ := h
  have h1b := h1
  obtain ⟨vs, Ss, r1, r2, r3, r4, r5⟩ := h1
  obtain ⟨A, m, c, rfl⟩ := lawE.one hu
  refine wpList_append_lies w hgd s x 24 ho base 60 i0 _ 1 24 Tryz.underlying24 hi hz0 hz1 hz2 rfl (by decide) v N.ends.length vs hs r1 ⟨b, 0, none⟩ 1 1 [.slice A m c] hx rfl
    (by intro j u hj; match j, hj with | 0, hj => (simp at hj; subst hj; simpa [Addr.add] using hc) | j + 1, hj => simp at hj) (by simp [Value.oneCell']) (by omega) (by unfold maxLen; omega) (by omega) hbs w.heap.size rfl ?_
  intro g cap w' q1 q2 q3 q4
  rw [h4, List.nodup_append] at h5
  obtain ⟨n1, n2, n3⟩ := h5
  have hd1 : ∀ j ∈ T, j ∉ S1 := fun j hj hS => hd j hj (by rw [h4]; exact List.mem_append_left _ hS)
  obtain ⟨S1', o1, hS1⟩ := OwnRows.snocC lawE h1b hu hd1 vs Ss r1 r2 r3 r4 r5 q1 q2 q3
  have hon := Only.of_grown q2
  have hvS : ∀ j ∈ v.ownBlock.toList, j ∈ S1 := fun j hj => by rw [r4]; exact List.mem_append_left _ hj
  have d : ∀ j ∈ S2 ++ S3, j ∉ v.ownBlock.toList := fun j hj hv => n3 j (hvS j hv) j hj rfl
  refine k _ w' (S1' ++ (S2 ++ S3)) (fun q hq => by simp [Value.ownBlock] at hq; subst hq; exact q3) ⟨S1', S2, S3, ?_, lawI.only h2 hon (fun j hj => d j (List.mem_append_left _ hj)), lawI.only h3 hon (fun j hj => d j (List.mem_append_right _ hj)), rfl, ?_⟩ ?_ (hon.mono fun j hj => by rw [h4]; exact List.mem_append_left _ (hvS j hj)) (Below.grown hsn q2 hsn.below.size hvT)
  · exact o1
  · rw [List.nodup_append]
    refine ⟨lawEE.nodup o1, n2, fun a ha b hb hab => ?_⟩
    subst hab
    rcases hS1 a ha with h | h | h
    · exact n3 a h a hb rfl
    · exact hd a h (by rw [h4]; exact List.mem_append_right _ hb)
    · have := (hrg a (by rw [h4]; exact List.mem_append_right _ hb)).2
      omega
  · intro j hj
    rcases List.mem_append.1 hj with hj | hj
    · rcases hS1 j hj with h | h | h
      · exact .inl (by rw [h4]; exact List.mem_append_left _ h)
      · exact .inr (.inl h)
      · exact .inr (.inr h)
    · exact .inl (by rw [h4]; exact List.mem_append_right _ hj)
/-- ends stored in the row of a network -/
theorem OwnNet.setEnd {w : World} {base g c n : Nat} {vi vn : Value} {N : Net} {S : List Nat} (h : OwnNet w base (.slice (some ⟨g, 0, none⟩) n c) vi vn N S) {k j : Nat} {es : List (Int × Int)} (hx : N.ends[k]? = some es) (hj : j < es.length) :
    ∃ gr cr, w.cell? ⟨g, k, none⟩ = some (.slice (some ⟨gr, 0, none⟩) es.length cr) ∧ es.length ≤ cr ∧ cr ≤ maxLen ∧ g ∈ S ∧ gr ∈ S ∧ g ≠ gr ∧ (w.frozen? ⟨gr, j * 2, none⟩ = false ∧ w.frozen? ⟨gr, j * 2 + 1, none⟩ = false) ∧ (∃ z, w.cell? ⟨gr, j * 2, none⟩ = some z) ∧ (∃ z, w.cell? ⟨gr, j * 2 + 1, none⟩ = some z) ∧
      ∀ y : Int × Int, OwnNet ((w.setCell ⟨gr, j * 2, none⟩ (.int .i64 y.1)).setCell ⟨gr, j * 2 + 1, none⟩ (.int .i64 y.2)) base (.slice (some ⟨g, 0, none⟩) n c) vi vn { N with ends := N.ends.set k (es.set j y) } S := by
  obtain ⟨S1, S2, S3, h1, h2, h3, h4, h5⟩ := h
  obtain ⟨u, T, hu, hR, hT, hup⟩ := OwnRows.touch lawE h1 hx
  have hnd := (rows_law _ lawE).nodup h1
  obtain ⟨_, _, _, _, _, hdis, _, hg1⟩ := OwnRows.at_ h1 hx
  rw [h4, List.nodup_append] at h5
  obtain ⟨n1, n2, n3⟩ := h5
  have hR' := hR.1
  rcases ownsRow_cases hR.1 with ⟨rfl, h0⟩ | ⟨gr, cr, rfl, hb1, hb2, hb3, hb4⟩
  · omega
  · have hgrT : gr ∈ T := by rw [hR.2]; simp [Value.ownBlock]
    obtain ⟨y0, hy0⟩ := getx es j hj
    obtain ⟨c1, c2, ff⟩ := OwnE.cells hR hy0
    have hne : g ≠ gr := fun e => by
      subst e
      obtain ⟨vs, Ss, e1, _⟩ := h1
      rcases e1.2 with ⟨h0, _⟩ | ⟨q', cap', cur', h0, _, hc', _⟩
      · cases h0
      · cases h0
        rcases hR'.2 with ⟨h0, _⟩ | ⟨q'', cap'', cur'', h0, _, hc'', _⟩
        · cases h0
        · cases h0
          rw [hc'] at hc''
          simp at hc''
    refine ⟨gr, cr, hu, hb3, hb4, by rw [h4]; exact List.mem_append_left _ hg1, by rw [h4]; exact List.mem_append_left _ (hT gr hgrT), hne, ff, ⟨_, c1⟩, ⟨_, c2⟩, fun y => ?_⟩
    have hon : Only T w ((w.setCell ⟨gr, j * 2, none⟩ (.int .i64 y.1)).setCell ⟨gr, j * 2 + 1, none⟩ (.int .i64 y.2)) := ((Only.refl _ _).setCell (.inl hgrT) _).setCell (.inl hgrT) _
    have d : ∀ q ∈ S2 ++ S3, q ∉ T := fun q hq hqT => n3 q (hT q hqT) q hq rfl
    exact ⟨S1, S2, S3, hup _ _ (OwnE.set hR hj y) hon, lawI.only h2 hon (fun q hq => d q (List.mem_append_left _ hq)), lawI.only h3 hon (fun q hq => d q (List.mem_append_right _ hq)), h4, by rw [h4, List.nodup_append]; exact ⟨n1, n2, n3⟩⟩
theorem BoxN.only {S : List Nat} {W W' : World} {b : Nat} {x y z : Value} (h : BoxN W b x y z) (ho : Only S W W') (hb : b ∉ S) : BoxN W' b x y z := (ho.block b h.lt hb).trans h
theorem BoxN.put0 {W : World} {b : Nat} {x y z : Value} (h : BoxN W b x y z) (u : Value) : BoxN (W.setCell ⟨b, 0, none⟩ u) b u y z := by
  unfold BoxN at h ⊢
  simp [World.setCell, Array.getElem?_modify, h]
theorem BoxN.put1 {W : World} {b : Nat} {x y z : Value} (h : BoxN W b x y z) (u : Value) : BoxN (W.setCell ⟨b, 1, none⟩ u) b x u z := by
  unfold BoxN at h ⊢
  simp [World.setCell, Array.getElem?_modify, h]
theorem BoxN.put2 {W : World} {b : Nat} {x y z : Value} (h : BoxN W b x y z) (u : Value) : BoxN (W.setCell ⟨b, 2, none⟩ u) b x y u := by
  unfold BoxN at h ⊢
  simp [World.setCell, Array.getElem?_modify, h]
theorem BoxN.other {W : World} {b : Nat} {x y z u : Value} {a : Addr} (h : BoxN W b x y z) (ha : b ≠ a.block) : BoxN (W.setCell a u) b x y z := (Below.heap_setCell W a u b ha).trans h
theorem ownNet_of {w : World} {base : Nat} {v ui un : Value} {ess : List (List (Int × Int))} {ids ins : List Int} {S1 : List Nat} (hE : OwnEE w base v ess S1) (h1 : Own w base ui ids) (h2 : Own w base un ins)
    (d1 : ∀ j ∈ S1, ui.ownBlock ≠ some j) (d2 : ∀ j ∈ S1, un.ownBlock ≠ some j) (d3 : ∀ j, ui.ownBlock = some j → un.ownBlock ≠ some j) :
    OwnNet w base v ui un ⟨ess, ids, ins⟩ (S1 ++ (ui.ownBlock.toList ++ un.ownBlock.toList)) := by
  refine ⟨S1, _, _, hE, ⟨h1, rfl⟩, ⟨h2, rfl⟩, rfl, ?_⟩
  rw [List.nodup_append, List.nodup_append]
  refine ⟨lawEE.nodup hE, ⟨by cases ui.ownBlock <;> simp, by cases un.ownBlock <;> simp, ?_⟩, ?_⟩
  · intro a ha b hb e
    subst e
    exact d3 a (by simpa using ha) (by simpa using hb)
  · intro a ha b hb e
    subst e
    rcases List.mem_append.1 hb with hb | hb
    · exact d1 a ha (by simpa using hb)
    · exact d2 a ha (by simpa using hb)
theorem app_zeroI {w : World} {ops : Array Oper} {rest : List Oper} {o : Oper} {a : Act} {Q : Exit → Act → World → Prop} (hgd : o.guard = none) (s x : Operand)
    (ho : o.op = .call { callee := .builtin .append, args := #[s, x], argTypes := #[25, 25] }) {base : Nat} {v : Value} {xs : List Int} (hs : a.eval s = v) (h : Own w base v xs) (A : Option Addr) (c : Nat) (hx : a.eval x = .slice A 0 c)
    (k : wpList Tryz.prog ops Q rest (a.put o.dst v) w) : wpList Tryz.prog ops Q (o :: rest) a w := by
  obtain ⟨i0, hi, hz0, hz1, hz2⟩ := info_parts int_info
  refine wpList_plain hgd fun K hK => ?_
  have hrun : (Builtin.append_ #[25, 25] o.type #[v, .slice A 0 c]).run Tryz.prog w = .ok v w := by
    rcases h.2 with ⟨rfl, hx0⟩ | ⟨g, cap, cur, rfl, _, _, hnc, _⟩
    · cases A <;> simp [Builtin.append_, run_underlying Tryz.underlying25, sizeOf, typeInfo, hi, Builtin.lenOf, Builtin.firstCells, loadCells, loadCellsFrom, Result.andThen]
    · cases A <;> simp [Builtin.append_, run_underlying Tryz.underlying25, sizeOf, typeInfo, hi, Builtin.lenOf, Builtin.firstCells, hnc, storeCells, loadCells, loadCellsFrom, Result.andThen]
  unfold Oper.wp
  simp [execOp, ho, resolve, invoke, builtin, hs, hx, hrun, Result.andThen]
  exact hK _ _ k
set_option maxHeartbeats 1000000 in
theorem l1Own_all (v : Value) (xs : List Int) (w : World) (h : IntS w v xs) (hl : xs.length ≤ 17592186044416) :
    Calls Tryz.prog 131 #[v] w fun e w' => ∃ u, e = .returned u ∧ Own w' w.heap.size u xs ∧ Below w.heap.size w w' := by
  rcases Nat.eq_zero_or_pos xs.length with h0 | h0
  · obtain rfl : xs = [] := List.eq_nil_of_length_eq_zero h0
    obtain ⟨A, c, rfl, hlc, hm, _⟩ := h
    have ho := own_lit w [] (by simp [maxLen])
    simp only [List.map_nil, List.length_nil] at ho
    have Ho := Lib.hid ho
    clear ho
    go_enter Tryz.func131, Tryz.ntmps131
    go_wp2_with (at_builtin; refine app_zeroI rfl _ _ rfl rfl Ho.out A c rfl ?_)
    go_wp2
    go_ret
    exact ⟨_, rfl, Ho.out, below_alloc _ _⟩
  · exact l1Own_any v xs w h h0 hl
end Go.Proofs.YtfkmkpamdlhbgaaGreat
namespace Go.Proofs.YtfkmkpamdlhbgaaGreat
open Go.RowKit
theorem tflow_skipw {P : Program} {ops : Array Oper} {S : World → Prop} {fin : Act → World → Prop} {o : Oper} {rest : List Oper} {A : Act} {W W' : World} (hw : Region.wanted o (yielded ops A.tmps) = true) (h : (execOp A.eval o).run P W = .ok .skip W') (hS : S W')
    (hr : TFlow P ops S fin rest (A.put o.dst undef) W') : TFlow P ops S fin (o :: rest) A W := .inl ⟨hw, by rw [h]; exact ⟨hS, hr⟩⟩
end Go.Proofs.YtfkmkpamdlhbgaaGreat
namespace Go.Proofs.YtfkmkpamdlhbgaaGreat
open Go Go.RowKit
/-! A region that draws its order, each operation with a relation of its own to the values of the others. -/
section
variable {P : Program} {ops : Array Oper}
end
end Go.Proofs.YtfkmkpamdlhbgaaGreat
namespace Go.Proofs.YtfkmkpamdlhbgaaGreat
open Go.RowKit
def OwnC (W : World) (B : Nat) (xs : List Int) (u : Value) : Prop := Own W B u xs
theorem OwnC.keep {W W' : World} {B : Nat} {xs : List Int} {u : Value} (h : OwnC W B xs u) (hs : Since W W') : OwnC W' B xs u := Own.since h hs
end Go.Proofs.YtfkmkpamdlhbgaaGreat
namespace Go.Proofs.YtfkmkpamdlhbgaaGreat
open Go Go.RowKit
/-! as wp_region_two, and the new variables lie behind w0 -/
section
variable {P : Program} {ops : Array Oper}
end
end Go.Proofs.YtfkmkpamdlhbgaaGreat
namespace Go.Proofs.YtfkmkpamdlhbgaaGreat
open Go.RowKit
end Go.Proofs.YtfkmkpamdlhbgaaGreat
namespace Go.Proofs.YtfkmkpamdlhbgaaGreat
open Go.RowKit
end Go.Proofs.YtfkmkpamdlhbgaaGreat
namespace Go.Proofs.YtfkmkpamdlhbgaaGreat
open Go.RowKit
/-! a network with two edges crossed -/
def putEnd (ess : List (List (Int × Int))) (p q : Int × Int) : List (List (Int × Int)) := ess.set p.1.toNat ((ess.getD p.1.toNat []).set p.2.toNat q)
theorem putEnd_len (ess : List (List (Int × Int))) (p q : Int × Int) : (putEnd ess p q).length = ess.length := by simp [putEnd]
theorem putEnd_row (ess : List (List (Int × Int))) (p q : Int × Int) (k : Nat) : ((putEnd ess p q).getD k []).length = (ess.getD k []).length := by
  unfold putEnd
  by_cases h : p.1.toNat = k
  · subst h
    by_cases hl : p.1.toNat < ess.length
    · simp [List.getD_eq_getElem?_getD, hl]
    · simp [List.getD_eq_getElem?_getD, hl]
  · simp [List.getD_eq_getElem?_getD, List.getElem?_set_ne h]
theorem putEnd_port (ess : List (List (Int × Int))) (p q : Int × Int) (v i : Int) : hasPortB (putEnd ess p q) v i = hasPortB ess v i := by
  unfold hasPortB
  rw [putEnd_len, putEnd_row]
def crossE (n : Net) (v i x j : Int) : List (List (Int × Int)) :=
  putEnd (putEnd (putEnd (putEnd n.ends (v, i) (endAt n.ends x j)) (endAt n.ends x j) (v, i)) (x, j) (endAt n.ends v i)) (endAt n.ends v i) (x, j)
/-- the copy while it is crossed -/
structure Cr (wa W : World) (ob b1 b2 g c m : Nat) (vi vn : Value) (N : Net) (S : List Nat) (a e : Int × Int) : Prop where
  own : OwnNet W wa.heap.size (.slice (some ⟨g, 0, none⟩) m c) vi vn N S
  len : N.ends.length = m
  box : BoxN W ob (.slice (some ⟨g, 0, none⟩) m c) vi vn
  e1 : E2 W 62 b1 a.1 a.2
  e2 : E2 W 62 b2 e.1 e.2
  nb : ob ∉ S ∧ b1 ∉ S ∧ b2 ∉ S
  since : Since wa W
theorem Cr.keep {wa W W' : World} {ob b1 b2 g c m : Nat} {vi vn : Value} {N : Net} {S : List Nat} {a e : Int × Int} (h : Cr wa W ob b1 b2 g c m vi vn N S a e) (hs : Since W W') : Cr wa W' ob b1 b2 g c m vi vn N S a e :=
  ⟨h.own.keep hs.below, h.len, h.box.since hs, (hs.block _ h.e1.lt).trans h.e1, (hs.block _ h.e2.lt).trans h.e2, h.nb, h.since.after hs⟩
theorem Cr.drew {wa W : World} {ob b1 b2 g c m : Nat} {vi vn : Value} {N : Net} {S : List Nat} {a e : Int × Int} (h : Cr wa W ob b1 b2 g c m vi vn N S a e) : Cr wa W.drew ob b1 b2 g c m vi vn N S a e := h.keep (since_drew (since_refl _))
/-- where a port of the copy lies, and the copy behind a store there -/
theorem Cr.port {wa W : World} {ob b1 b2 g c m : Nat} {vi vn : Value} {N : Net} {S : List Nat} {a e : Int × Int} (h : Cr wa W ob b1 b2 g c m vi vn N S a e) {v i : Int} (hp : hasPortB N.ends v i = true) :
    ∃ (k j gr cr l : Nat), v = (k : Int) ∧ i = (j : Int) ∧ k < m ∧ j < l ∧ l ≤ cr ∧ cr ≤ 9223372036854775807 ∧ W.cell? ⟨g, k, none⟩ = some (.slice (some ⟨gr, 0, none⟩) l cr) ∧ g ≠ gr ∧ gr ≠ ob ∧ gr ≠ b1 ∧ gr ≠ b2 ∧ W.frozen? ⟨gr, j * 2, none⟩ = false ∧ W.frozen? ⟨gr, j * 2 + 1, none⟩ = false ∧ (∃ z, W.cell? ⟨gr, j * 2, none⟩ = some z) ∧ (∃ z, W.cell? ⟨gr, j * 2 + 1, none⟩ = some z) ∧
      ∀ y : Int × Int, Cr wa ((W.setCell ⟨gr, j * 2, none⟩ (.int .i64 y.1)).setCell ⟨gr, j * 2 + 1, none⟩ (.int .i64 y.2)) ob b1 b2 g c m vi vn { N with ends := putEnd N.ends (v, i) y } S a e := by
  unfold hasPortB at hp
  rw [Bool.and_eq_true] at hp
  obtain ⟨p1, p2⟩ := hp
  obtain ⟨p3, p4⟩ := inB_iff.1 p1
  obtain ⟨k, rfl⟩ := Int.eq_ofNat_of_zero_le p3
  have hk : k < N.ends.length := by omega
  obtain ⟨es, hes⟩ := getx N.ends k hk
  rw [Int.toNat_natCast, getD_of hes] at p2
  obtain ⟨p5, p6⟩ := inB_iff.1 p2
  obtain ⟨j, rfl⟩ := Int.eq_ofNat_of_zero_le p5
  have hj : j < es.length := by omega
  obtain ⟨gr, cr, c1, c2, c3, c4, c5, c6, ⟨c7, c8⟩, c9, c10, hup⟩ := h.own.setEnd hes hj
  have hgs : wa.heap.size ≤ gr := (h.own.range gr c5).1
  have hn : ∀ b, b ∉ S → gr ≠ b := fun b hb e => hb (e ▸ c5)
  unfold maxLen at c3
  refine ⟨k, j, gr, cr, es.length, rfl, rfl, by have := h.len; omega, hj, c2, by omega, c1, c6, hn _ h.nb.1, hn _ h.nb.2.1, hn _ h.nb.2.2, c7, c8, c9, c10, fun y => ⟨?_, by rw [← h.len]; exact putEnd_len _ _ _, ?_, ?_, ?_, h.nb, ?_⟩⟩
  · have := hup y
    unfold putEnd
    simp only [Int.toNat_natCast, getD_of hes]
    exact this
  · exact (h.box.other (hn _ h.nb.1).symm).other (hn _ h.nb.1).symm
  · exact (h.e1.other (hn _ h.nb.2.1).symm _ _).other (hn _ h.nb.2.1).symm _ _
  · exact (h.e2.other (hn _ h.nb.2.2).symm _ _).other (hn _ h.nb.2.2).symm _ _
  · exact (h.since.setCell hgs _).setCell hgs _
end Go.Proofs.YtfkmkpamdlhbgaaGreat
namespace Go.Proofs.YtfkmkpamdlhbgaaGreat
open Go.RowKit
end Go.Proofs.YtfkmkpamdlhbgaaGreat
namespace Go.Proofs.YtfkmkpamdlhbgaaGreat
open Go.RowKit
end Go.Proofs.YtfkmkpamdlhbgaaGreat
namespace Go.Proofs.YtfkmkpamdlhbgaaGreat
open Go.RowKit
end Go.Proofs.YtfkmkpamdlhbgaaGreat
namespace Go.Proofs.YtfkmkpamdlhbgaaGreat
open Go.RowKit
end Go.Proofs.YtfkmkpamdlhbgaaGreat
namespace Go.Proofs.YtfkmkpamdlhbgaaGreat
open Go.RowKit
end Go.Proofs.YtfkmkpamdlhbgaaGreat
namespace Go.Proofs.YtfkmkpamdlhbgaaGreat
open Go.RowKit
/-! crossing crossable edges changes no verdict; crossing them again gives the network back (plain law) -/
theorem hasPort_iff {ess : List (List (Int × Int))} {v i : Int} : hasPortB ess v i = true ↔ 0 ≤ v ∧ v < ess.length ∧ 0 ≤ i ∧ i < ((ess.getD v.toNat []).length : Int) := by
  unfold hasPortB
  rw [Bool.and_eq_true, inB_iff, inB_iff]
  omega
theorem endAt_put {ess : List (List (Int × Int))} {p q : Int × Int} (hp : hasPortB ess p.1 p.2 = true) (v i : Int) (hv : 0 ≤ v) (hi : 0 ≤ i) : endAt (putEnd ess p q) v i = if (v, i) = p then q else endAt ess v i := by
  obtain ⟨h1, h2, h3, h4⟩ := hasPort_iff.1 hp
  unfold endAt putEnd
  by_cases hvp : p.1.toNat = v.toNat
  · have e1 : p.1 = v := by omega
    have hl : v.toNat < ess.length := by omega
    rw [hvp] at h4 ⊢
    rw [List.getD_eq_getElem?_getD (i := v.toNat), List.getElem?_set_self hl]
    simp only [Option.getD_some]
    by_cases hip : p.2.toNat = i.toNat
    · have e2 : p.2 = i := by omega
      rw [if_pos (Prod.ext e1.symm e2.symm), hip, List.getD_eq_getElem?_getD, List.getElem?_set_self (by omega)]
      rfl
    · rw [if_neg (fun e => hip (by rw [← e])), List.getD_eq_getElem?_getD, List.getElem?_set_ne hip, ← List.getD_eq_getElem?_getD]
  · rw [if_neg (fun e => hvp (by rw [← e])), List.getD_eq_getElem?_getD (i := v.toNat), List.getElem?_set_ne hvp, ← List.getD_eq_getElem?_getD]
/-- rows are told by their ports -/
theorem rows_ext {a b : List (List (Int × Int))} (hl : a.length = b.length) (hr : ∀ k, (a.getD k []).length = (b.getD k []).length) (he : ∀ v i, hasPortB a v i = true → endAt a v i = endAt b v i) : a = b := by
  apply List.ext_getElem hl
  intro k h1 h2
  have g1 : a.getD k [] = a[k] := by simp [List.getD_eq_getElem?_getD, h1]
  have g2 : b.getD k [] = b[k] := by simp [List.getD_eq_getElem?_getD, h2]
  apply List.ext_getElem
  · rw [← g1, ← g2]; exact hr k
  · intro j j1 j2
    have := he (k : Int) (j : Int) (hasPort_iff.2 ⟨by omega, by omega, by omega, by rw [Int.toNat_natCast, g1]; omega⟩)
    unfold endAt at this
    rw [Int.toNat_natCast, Int.toNat_natCast, g1, g2] at this
    simpa [List.getD_eq_getElem?_getD, j1, j2] using this
structure MayX (n : Net) (p q : Int × Int) : Prop where
  ok : netOk n = true
  hp : hasPortB n.ends p.1 p.2 = true
  hq : hasPortB n.ends q.1 q.2 = true
  n1 : p ≠ q
  n2 : endAt n.ends p.1 p.2 ≠ q
  n3 : endAt n.ends p.1 p.2 ≠ p
  n4 : endAt n.ends q.1 q.2 ≠ q
theorem MayX.ea {n : Net} {p q : Int × Int} (h : MayX n p q) : hasPortB n.ends (endAt n.ends p.1 p.2).1 (endAt n.ends p.1 p.2).2 = true ∧ endAt n.ends (endAt n.ends p.1 p.2).1 (endAt n.ends p.1 p.2).2 = p := netOk_end h.ok h.hp
theorem MayX.eb {n : Net} {p q : Int × Int} (h : MayX n p q) : hasPortB n.ends (endAt n.ends q.1 q.2).1 (endAt n.ends q.1 q.2).2 = true ∧ endAt n.ends (endAt n.ends q.1 q.2).1 (endAt n.ends q.1 q.2).2 = q := netOk_end h.ok h.hq
theorem MayX.n5 {n : Net} {p q : Int × Int} (h : MayX n p q) : endAt n.ends q.1 q.2 ≠ p := fun e => by
  have := h.eb.2
  rw [e] at this
  exact h.n2 this
theorem MayX.n6 {n : Net} {p q : Int × Int} (h : MayX n p q) : endAt n.ends p.1 p.2 ≠ endAt n.ends q.1 q.2 := fun e => by
  have h1 := h.ea.2
  have h2 := h.eb.2
  rw [e] at h1
  exact h.n1 (h1.symm.trans h2)
theorem MayX.port {n : Net} {p q : Int × Int} (_ : MayX n p q) (v i : Int) : hasPortB (crossE n p.1 p.2 q.1 q.2) v i = hasPortB n.ends v i := by
  unfold crossE
  simp only [putEnd_port]
theorem MayX.len {n : Net} {p q : Int × Int} (_ : MayX n p q) : (crossE n p.1 p.2 q.1 q.2).length = n.ends.length := by
  unfold crossE
  simp only [putEnd_len]
theorem MayX.row {n : Net} {p q : Int × Int} (_ : MayX n p q) (k : Nat) : ((crossE n p.1 p.2 q.1 q.2).getD k []).length = (n.ends.getD k []).length := by
  unfold crossE
  simp only [putEnd_row]
theorem MayX.at_ {n : Net} {p q : Int × Int} (h : MayX n p q) (v i : Int) (hv : 0 ≤ v) (hi : 0 ≤ i) : endAt (crossE n p.1 p.2 q.1 q.2) v i =
    if (v, i) = endAt n.ends p.1 p.2 then q else if (v, i) = q then endAt n.ends p.1 p.2 else if (v, i) = endAt n.ends q.1 q.2 then p else if (v, i) = p then endAt n.ends q.1 q.2 else endAt n.ends v i := by
  have ha := h.ea.1
  have hb := h.eb.1
  have hp := h.hp
  have hq := h.hq
  unfold crossE
  rw [endAt_put (by simp only [putEnd_port]; exact ha) v i hv hi, endAt_put (by simp only [putEnd_port]; exact hq) v i hv hi, endAt_put (by simp only [putEnd_port]; exact hb) v i hv hi, endAt_put (by exact hp) v i hv hi]
/-- the crossed network -/
def crossN (n : Net) (p q : Int × Int) : Net := { n with ends := crossE n p.1 p.2 q.1 q.2 }
theorem netOk_iff {n : Net} : netOk n = true ↔ (1 ≤ n.ends.length ∧ n.ends.length ≤ 40) ∧ idsB n.ids n.ends.length = true ∧ inputsB n.inputs n.ends.length = true ∧ (∀ k, k < n.ends.length → (n.ends.getD k []).length ≤ 6) ∧
    ∀ v i, hasPortB n.ends v i = true → hasPortB n.ends (endAt n.ends v i).1 (endAt n.ends v i).2 = true ∧ endAt n.ends (endAt n.ends v i).1 (endAt n.ends v i).2 = (v, i) := by
  constructor
  · intro h
    refine ⟨netOk_len h, ?_, ?_, ?_, fun v i hp => netOk_end h hp⟩
    · unfold netOk at h; simp only [Bool.and_eq_true] at h; exact h.1.1.2
    · unfold netOk at h; simp only [Bool.and_eq_true] at h; exact h.1.2
    · intro k hk
      obtain ⟨es, hes⟩ := getx n.ends k hk
      rw [getD_of hes]
      exact (netOk_row h hes).1
  · rintro ⟨h1, h2, h3, h4, h5⟩
    unfold netOk
    simp only [Bool.and_eq_true, List.all_eq_true, List.mem_range, inB_iff]
    refine ⟨⟨⟨by omega, h2⟩, h3⟩, fun k hk => ?_⟩
    unfold rowOkB endOkB
    simp only [Bool.and_eq_true, List.all_eq_true, List.mem_range, decide_eq_true_eq]
    refine ⟨h4 k hk, fun i hi => ?_⟩
    have := h5 (k : Int) (i : Int) (hasPort_iff.2 ⟨by omega, by omega, by omega, by rw [Int.toNat_natCast]; omega⟩)
    unfold endAt at this
    rw [Int.toNat_natCast, Int.toNat_natCast] at this
    exact ⟨this.1, by unfold eqE; exact decide_eq_true this.2⟩
theorem hasPort_pos {ess : List (List (Int × Int))} {p : Int × Int} (h : hasPortB ess p.1 p.2 = true) : 0 ≤ p.1 ∧ 0 ≤ p.2 := by
  have := hasPort_iff.1 h
  omega
theorem MayX.at_p {n : Net} {p q : Int × Int} (h : MayX n p q) : endAt (crossE n p.1 p.2 q.1 q.2) p.1 p.2 = endAt n.ends q.1 q.2 := by
  obtain ⟨a, b⟩ := hasPort_pos h.hp
  rw [h.at_ _ _ a b, if_neg (fun e => h.n3 e.symm), if_neg (fun e => h.n1 e), if_neg (fun e => h.n5 e.symm), if_pos rfl]
theorem MayX.at_q {n : Net} {p q : Int × Int} (h : MayX n p q) : endAt (crossE n p.1 p.2 q.1 q.2) q.1 q.2 = endAt n.ends p.1 p.2 := by
  obtain ⟨a, b⟩ := hasPort_pos h.hq
  rw [h.at_ _ _ a b, if_neg (fun e => h.n2 e.symm), if_pos rfl]
theorem MayX.at_ea {n : Net} {p q : Int × Int} (h : MayX n p q) : endAt (crossE n p.1 p.2 q.1 q.2) (endAt n.ends p.1 p.2).1 (endAt n.ends p.1 p.2).2 = q := by
  obtain ⟨a, b⟩ := hasPort_pos h.ea.1
  rw [h.at_ _ _ a b, if_pos rfl]
theorem MayX.at_eb {n : Net} {p q : Int × Int} (h : MayX n p q) : endAt (crossE n p.1 p.2 q.1 q.2) (endAt n.ends q.1 q.2).1 (endAt n.ends q.1 q.2).2 = p := by
  obtain ⟨a, b⟩ := hasPort_pos h.eb.1
  rw [h.at_ _ _ a b, if_neg (fun e => h.n6 e.symm), if_neg (fun e => h.n4 e), if_pos rfl]
theorem MayX.ok2 {n : Net} {p q : Int × Int} (h : MayX n p q) : netOk (crossN n p q) = true := by
  obtain ⟨k1, k2, k3, k4, k5⟩ := netOk_iff.1 h.ok
  refine netOk_iff.2 ⟨?_, ?_, ?_, ?_, ?_⟩
  · show 1 ≤ (crossE n p.1 p.2 q.1 q.2).length ∧ (crossE n p.1 p.2 q.1 q.2).length ≤ 40; rw [h.len]; exact k1
  · show idsB n.ids (((crossE n p.1 p.2 q.1 q.2).length : Nat) : Int) = true; rw [h.len]; exact k2
  · show inputsB n.inputs (((crossE n p.1 p.2 q.1 q.2).length : Nat) : Int) = true; rw [h.len]; exact k3
  · intro k hk
    show ((crossE n p.1 p.2 q.1 q.2).getD k []).length ≤ 6
    rw [h.row]
    exact k4 k (by have : (crossN n p q).ends.length = n.ends.length := h.len; omega)
  · intro v i hp
    show hasPortB (crossE n p.1 p.2 q.1 q.2) (endAt (crossE n p.1 p.2 q.1 q.2) v i).1 (endAt (crossE n p.1 p.2 q.1 q.2) v i).2 = true ∧ endAt (crossE n p.1 p.2 q.1 q.2) (endAt (crossE n p.1 p.2 q.1 q.2) v i).1 (endAt (crossE n p.1 p.2 q.1 q.2) v i).2 = (v, i)
    have hp : hasPortB n.ends v i = true := (h.port v i).symm.trans hp
    obtain ⟨a, b⟩ := hasPort_pos (p := (v, i)) hp
    rw [h.port]
    by_cases e1 : (v, i) = endAt n.ends p.1 p.2
    · rw [show v = (endAt n.ends p.1 p.2).1 from congrArg Prod.fst e1, show i = (endAt n.ends p.1 p.2).2 from congrArg Prod.snd e1, h.at_ea]
      exact ⟨h.hq, h.at_q⟩
    · by_cases e2 : (v, i) = q
      · rw [show v = q.1 from congrArg Prod.fst e2, show i = q.2 from congrArg Prod.snd e2, h.at_q]
        exact ⟨h.ea.1, h.at_ea⟩
      · by_cases e3 : (v, i) = endAt n.ends q.1 q.2
        · rw [show v = (endAt n.ends q.1 q.2).1 from congrArg Prod.fst e3, show i = (endAt n.ends q.1 q.2).2 from congrArg Prod.snd e3, h.at_eb]
          exact ⟨h.hp, h.at_p⟩
        · by_cases e4 : (v, i) = p
          · rw [show v = p.1 from congrArg Prod.fst e4, show i = p.2 from congrArg Prod.snd e4, h.at_p]
            exact ⟨h.eb.1, h.at_eb⟩
          · have h0 : endAt (crossE n p.1 p.2 q.1 q.2) v i = endAt n.ends v i := by rw [h.at_ v i a b, if_neg e1, if_neg e2, if_neg e3, if_neg e4]
            rw [h0]
            obtain ⟨z1, z2⟩ := k5 v i hp
            refine ⟨z1, ?_⟩
            obtain ⟨a', b'⟩ := hasPort_pos z1
            rw [h.at_ _ _ a' b', if_neg, if_neg, if_neg, if_neg]
            · exact z2
            · intro e; rw [show endAt n.ends v i = p from e] at z2; exact e1 z2.symm
            · intro e; rw [show endAt n.ends v i = endAt n.ends q.1 q.2 from e, h.eb.2] at z2; exact e2 z2.symm
            · intro e; rw [show endAt n.ends v i = q from e] at z2; exact e3 z2.symm
            · intro e; rw [show endAt n.ends v i = endAt n.ends p.1 p.2 from e, h.ea.2] at z2; exact e4 z2.symm
/-- the crossed network can be crossed there as well -/
theorem MayX.again {n : Net} {p q : Int × Int} (h : MayX n p q) : MayX (crossN n p q) p q := by
  refine ⟨h.ok2, (h.port _ _).trans h.hp, (h.port _ _).trans h.hq, h.n1, ?_, ?_, ?_⟩
  · show endAt (crossE n p.1 p.2 q.1 q.2) p.1 p.2 ≠ q; rw [h.at_p]; exact h.n4
  · show endAt (crossE n p.1 p.2 q.1 q.2) p.1 p.2 ≠ p; rw [h.at_p]; exact h.n5
  · show endAt (crossE n p.1 p.2 q.1 q.2) q.1 q.2 ≠ q; rw [h.at_q]; exact h.n2
theorem MayX.back {n : Net} {p q : Int × Int} (h : MayX n p q) : crossN (crossN n p q) p q = n := by
  have e : crossE (crossN n p q) p.1 p.2 q.1 q.2 = n.ends := by
    apply rows_ext
    · rw [h.again.len]; exact h.len
    · intro k; rw [h.again.row]; exact h.row k
    · intro v i hp
      have hp1 : hasPortB (crossE n p.1 p.2 q.1 q.2) v i = true := (h.again.port v i).symm.trans hp
      have hp : hasPortB n.ends v i = true := (h.port v i).symm.trans hp1
      obtain ⟨a, b⟩ := hasPort_pos (p := (v, i)) hp
      rw [h.again.at_ v i a b]
      show (if (v, i) = endAt (crossE n p.1 p.2 q.1 q.2) p.1 p.2 then q else if (v, i) = q then endAt (crossE n p.1 p.2 q.1 q.2) p.1 p.2 else if (v, i) = endAt (crossE n p.1 p.2 q.1 q.2) q.1 q.2 then p else if (v, i) = p then endAt (crossE n p.1 p.2 q.1 q.2) q.1 q.2 else endAt (crossE n p.1 p.2 q.1 q.2) v i) = _
      rw [h.at_p, h.at_q]
      by_cases e3 : (v, i) = endAt n.ends q.1 q.2
      · rw [if_pos e3]; have := h.eb.2; rw [← e3] at this; exact this.symm
      · rw [if_neg e3]
        by_cases e2 : (v, i) = q
        · rw [if_pos e2]; rw [show v = q.1 from congrArg Prod.fst e2, show i = q.2 from congrArg Prod.snd e2]
        · rw [if_neg e2]
          by_cases e1 : (v, i) = endAt n.ends p.1 p.2
          · rw [if_pos e1]; have := h.ea.2; rw [← e1] at this; exact this.symm
          · rw [if_neg e1]
            by_cases e4 : (v, i) = p
            · rw [if_pos e4]; rw [show v = p.1 from congrArg Prod.fst e4, show i = p.2 from congrArg Prod.snd e4]
            · rw [if_neg e4, h.at_ v i a b, if_neg e1, if_neg e2, if_neg e3, if_neg e4]
  unfold crossN at e ⊢
  simp only [e]
/-- what a node sees -/
def viewB (ls : List Int) (es : List (Int × Int)) : List (Int × Int) := es.map fun e => (lab ls e, e.2)
theorem view_len {ls : List Int} {a b : List (Int × Int)} (h : viewB ls a = viewB ls b) : a.length = b.length := by
  have := congrArg List.length h
  simpa [viewB] using this
theorem view_get {ls : List Int} {a b : List (Int × Int)} (h : viewB ls a = viewB ls b) (i : Nat) (hi : i < a.length) : lab ls (a.getD i (0, 0)) = lab ls (b.getD i (0, 0)) ∧ (a.getD i (0, 0)).2 = (b.getD i (0, 0)).2 := by
  have hl := view_len h
  have e : (viewB ls a)[i]? = (viewB ls b)[i]? := by rw [h]
  unfold viewB at e
  rw [List.getElem?_map, List.getElem?_map, List.getElem?_eq_getElem hi, List.getElem?_eq_getElem (by omega : i < b.length)] at e
  simp only [Option.map_some, Option.some.injEq, Prod.mk.injEq] at e
  rw [show a.getD i (0, 0) = a[i] by simp [List.getD_eq_getElem?_getD, hi], show b.getD i (0, 0) = b[i]'(by omega) by simp [List.getD_eq_getElem?_getD, (by omega : i < b.length)]]
  exact e
theorem view_near {ls : List Int} {a b : List (Int × Int)} (h : viewB ls a = viewB ls b) : nearB ls a = nearB ls b := by
  have := congrArg (List.map Prod.fst) h
  simpa [viewB, nearB, lab, Function.comp_def] using this
theorem range_all_congr {k : Nat} {f g : Nat → Bool} (h : ∀ i, i < k → f i = g i) : (List.range k).all f = (List.range k).all g := by
  rw [Bool.eq_iff_iff, List.all_eq_true, List.all_eq_true]
  exact ⟨fun h1 x hx => by rw [← h x (List.mem_range.1 hx)]; exact h1 x hx, fun h1 x hx => by rw [h x (List.mem_range.1 hx)]; exact h1 x hx⟩
theorem range_any_congr {k : Nat} {f g : Nat → Bool} (h : ∀ i, i < k → f i = g i) : (List.range k).any f = (List.range k).any g := by
  rw [Bool.eq_iff_iff, List.any_eq_true, List.any_eq_true]
  exact ⟨fun ⟨x, hx, h1⟩ => ⟨x, hx, by rw [← h x (List.mem_range.1 hx)]; exact h1⟩, fun ⟨x, hx, h1⟩ => ⟨x, hx, by rw [h x (List.mem_range.1 hx)]; exact h1⟩⟩
theorem view_sum {ls : List Int} {a b : List (Int × Int)} (h : viewB ls a = viewB ls b) (l : Int) (j : Nat) (hj : j ≤ a.length) : evSum ls l a j = evSum ls l b j := by
  induction j with
  | zero => rfl
  | succ j ih =>
    obtain ⟨e1, e2⟩ := view_get h j (by omega)
    unfold evSum evHit
    rw [ih (by omega), e1, e2]
theorem view_acc {n : Net} {s : Int} {ls : List Int} {l idk ink : Int} {a b : List (Int × Int)} (h : viewB ls a = viewB ls b) : accB n s ls l idk ink a = accB n s ls l idk ink b := by
  have hl := view_len h
  have hn := view_near h
  unfold accB
  rw [hn]
  have e1 : leadB idk ink ls l a = leadB idk ink ls l b := by
    unfold leadB
    rw [hl, range_all_congr (k := b.length) (f := fun i => lab ls (a.getD i (0, 0)) / 100 == l / 100) (g := fun i => lab ls (b.getD i (0, 0)) / 100 == l / 100) (fun i hi => by rw [(view_get h i (by omega)).1]),
      range_any_congr (k := b.length) (f := fun i => lab ls (a.getD i (0, 0)) % 100 == l % 100 - 1) (g := fun i => lab ls (b.getD i (0, 0)) % 100 == l % 100 - 1) (fun i hi => by rw [(view_get h i (by omega)).1])]
  have e2 : evenB idk ls l a = evenB idk ls l b := by
    unfold evenB evAll evAny
    rw [hl, view_sum h l b.length (by omega), range_all_congr (k := b.length) (f := fun i => ev0 (lab ls (a.getD i (0, 0))) == ev0 l) (g := fun i => ev0 (lab ls (b.getD i (0, 0))) == ev0 l) (fun i hi => by rw [(view_get h i (by omega)).1]),
      range_any_congr (k := b.length) (f := fun i => ((i : Int) == ev2 l) && (ev1 (lab ls (a.getD i (0, 0))) == ev1 l - 1)) (g := fun i => ((i : Int) == ev2 l) && (ev1 (lab ls (b.getD i (0, 0))) == ev1 l - 1)) (fun i hi => by rw [(view_get h i (by omega)).1])]
  rw [e1, e2]
/-- the crossing is not seen -/
structure HidX (n : Net) (ls : List Int) (p q : Int × Int) : Prop extends MayX n p q where
  s2 : p.2 = q.2
  t2 : (endAt n.ends p.1 p.2).2 = (endAt n.ends q.1 q.2).2
  s1 : lab ls p = lab ls q
  t1 : lab ls (endAt n.ends p.1 p.2) = lab ls (endAt n.ends q.1 q.2)
theorem HidX.ends {n : Net} {ls : List Int} {p q : Int × Int} (h : HidX n ls p q) {v i : Int} (hp : hasPortB n.ends v i = true) : lab ls (endAt (crossE n p.1 p.2 q.1 q.2) v i) = lab ls (endAt n.ends v i) ∧ (endAt (crossE n p.1 p.2 q.1 q.2) v i).2 = (endAt n.ends v i).2 := by
  have hm := h.toMayX
  obtain ⟨a, b⟩ := hasPort_pos (p := (v, i)) hp
  rw [hm.at_ v i a b]
  by_cases e1 : (v, i) = endAt n.ends p.1 p.2
  · rw [if_pos e1]; have h1 := hm.ea.2; rw [← e1] at h1; rw [show endAt n.ends v i = p from h1]; exact ⟨h.s1.symm, h.s2.symm⟩
  · rw [if_neg e1]
    by_cases e2 : (v, i) = q
    · rw [if_pos e2, show v = q.1 from congrArg Prod.fst e2, show i = q.2 from congrArg Prod.snd e2]; exact ⟨h.t1, h.t2⟩
    · rw [if_neg e2]
      by_cases e3 : (v, i) = endAt n.ends q.1 q.2
      · rw [if_pos e3]; have h1 := hm.eb.2; rw [← e3] at h1; rw [show endAt n.ends v i = q from h1]; exact ⟨h.s1, h.s2⟩
      · rw [if_neg e3]
        by_cases e4 : (v, i) = p
        · rw [if_pos e4, show v = p.1 from congrArg Prod.fst e4, show i = p.2 from congrArg Prod.snd e4]; exact ⟨h.t1.symm, h.t2.symm⟩
        · rw [if_neg e4]; exact ⟨rfl, rfl⟩
theorem HidX.view {n : Net} {ls : List Int} {p q : Int × Int} (h : HidX n ls p q) (k : Nat) : viewB ls ((crossN n p q).ends.getD k []) = viewB ls (n.ends.getD k []) := by
  have hm := h.toMayX
  have hr : ((crossN n p q).ends.getD k []).length = (n.ends.getD k []).length := hm.row k
  unfold viewB
  apply List.ext_getElem?
  intro j
  rw [List.getElem?_map, List.getElem?_map]
  by_cases hj : j < (n.ends.getD k []).length
  · have hk : k < n.ends.length := by
      apply Decidable.byContradiction
      intro hk
      rw [show n.ends.getD k [] = [] by simp [List.getD_eq_getElem?_getD, List.getElem?_eq_none (by omega : n.ends.length ≤ k)]] at hj
      simp at hj
    have hpt : hasPortB n.ends (k : Int) (j : Int) = true := hasPort_iff.2 ⟨by omega, by omega, by omega, by rw [Int.toNat_natCast]; omega⟩
    obtain ⟨e1, e2⟩ := h.ends hpt
    unfold endAt at e1 e2
    rw [Int.toNat_natCast, Int.toNat_natCast] at e1 e2
    rw [List.getElem?_eq_getElem hj, List.getElem?_eq_getElem (by omega : j < ((crossN n p q).ends.getD k []).length)]
    simp only [Option.map_some, Option.some.injEq, Prod.mk.injEq]
    have g1 : (n.ends.getD k []).getD j (0, 0) = (n.ends.getD k [])[j] := getD_of (List.getElem?_eq_getElem hj)
    have g2 : ((crossE n p.1 p.2 q.1 q.2).getD k []).getD j (0, 0) = ((crossN n p q).ends.getD k [])[j]'(by omega) := by
      exact getD_of (List.getElem?_eq_getElem (by omega : j < ((crossN n p q).ends.getD k []).length))
    rw [g1, g2] at e1 e2
    exact ⟨e1, e2⟩
  · rw [List.getElem?_eq_none (by omega), List.getElem?_eq_none (by omega)]
theorem HidX.acc {n : Net} {ls : List Int} {p q : Int × Int} (h : HidX n ls p q) (s : Int) (k : Nat) : accAt (crossN n p q) s ls k = accAt n s ls k := by
  unfold accAt
  have e := view_acc (n := n) (s := s) (l := ls.getD k 0) (idk := n.ids.getD k 0) (ink := n.inputs.getD k 0) (h.view k)
  rw [← e]
  rfl
end Go.Proofs.YtfkmkpamdlhbgaaGreat
namespace Go.Proofs.YtfkmkpamdlhbgaaGreat
open Go.RowKit
/-! the search for labels -/
/-- the test looks at a node and its neighbours alone -/
def Local (n : Net) (acc : List Int → Nat → Bool) : Prop := ∀ l t v, v < n.ends.length → l.getD v 0 = t.getD v 0 → (∀ e ∈ n.ends.getD v [], l.getD e.1.toNat 0 = t.getD e.1.toNat 0) → acc l v = acc t v
theorem known_iff {n : Net} (hn : netOk n = true) {a v : Nat} (_ : a < n.ends.length) : knownB n (a : Int) v = true ↔ a ≤ v ∧ ∀ e ∈ n.ends.getD a [], e.1.toNat ≤ v := by
  unfold knownB
  rw [Bool.and_eq_true, decide_eq_true_eq, List.all_eq_true, Int.toNat_natCast]
  constructor
  · rintro ⟨h1, h2⟩
    refine ⟨by omega, fun e he => ?_⟩
    have := inB_iff.1 (h2 e.1 (List.mem_map.2 ⟨e, he, rfl⟩))
    omega
  · rintro ⟨h1, h2⟩
    refine ⟨by omega, fun x hx => ?_⟩
    obtain ⟨e, he, rfl⟩ := List.mem_map.1 hx
    have h3 := h2 e he
    have h4 := row_mem_lt hn he
    exact inB_iff.2 (by omega)
theorem view_mem {n : Net} {v : Nat} {w : Int} : w ∈ viewG n v ↔ (∃ e ∈ n.ends.getD v [], e.1 = w) ∨ w = (v : Int) := by
  unfold viewG
  rw [List.mem_append, List.mem_map, List.mem_singleton]
structure SrOk (n : Net) (acc : List Int → Nat → Bool) (most : Int) (l : List Int) (v : Nat) : Prop where
  st : St n.ends.length most l v
  good : ∀ a, a < n.ends.length → a < v → (∀ e ∈ n.ends.getD a [], e.1.toNat < v) → acc l a = true
theorem SrOk.start (n : Net) (acc : List Int → Nat → Bool) (most : Int) (hm : 0 ≤ most) : SrOk n acc most (List.replicate n.ends.length (-1)) 0 := ⟨St.start _ _ hm, fun a _ ha => by omega⟩
theorem SrOk.back {n : Net} {acc : List Int → Nat → Bool} (hl : Local n acc) {most : Int} {l : List Int} {v : Nat} (h : SrOk n acc most l v) (h0 : v ≠ 0) : SrOk n acc most (l.set v (-1)) (v - 1) := by
  refine ⟨h.st.back h0, fun a haN ha he => ?_⟩
  rw [hl (l.set v (-1)) l a haN (getD_set_ne (by omega)) (fun e hm => getD_set_ne (by have := he e hm; omega))]
  exact h.good a haN (by omega) fun e hm => by have := he e hm; omega
theorem SrOk.stay {n : Net} {acc : List Int → Nat → Bool} (hl : Local n acc) {most : Int} {l : List Int} {v : Nat} (h : SrOk n acc most l v) (hv : v < n.ends.length) (hm : l.getD v 0 ≠ most) : SrOk n acc most (l.set v (l.getD v 0 + 1)) v := by
  refine ⟨(h.st.up hv hm).stay, fun a haN ha he => ?_⟩
  rw [hl _ l a haN (getD_set_ne (by omega)) (fun e hm => getD_set_ne (by have := he e hm; omega))]
  exact h.good a haN ha he
theorem SrOk.on {n : Net} (hn : netOk n = true) {acc : List Int → Nat → Bool} (hl : Local n acc) {most : Int} (hm0 : 0 ≤ most) {l : List Int} {v : Nat} (h : SrOk n acc most l v) (hv : v < n.ends.length) (hm : l.getD v 0 ≠ most) (hg : goodG n acc (l.set v (l.getD v 0 + 1)) v = true) : SrOk n acc most (l.set v (l.getD v 0 + 1)) (v + 1) := by
  refine ⟨(h.st.up hv hm).on hm0, fun a haN ha he => ?_⟩
  unfold goodG at hg
  rw [List.all_eq_true] at hg
  have key : (a : Int) ∈ viewG n v → acc (l.set v (l.getD v 0 + 1)) a = true := fun hmem => by
    have := hg _ hmem
    rw [(known_iff hn haN).2 ⟨by omega, fun e hm => by have := he e hm; omega⟩, Int.toNat_natCast] at this
    simpa using this
  by_cases e1 : a = v
  · exact key (view_mem.2 (.inr (by rw [e1])))
  · by_cases e2 : ∃ e ∈ n.ends.getD a [], e.1.toNat = v
    · obtain ⟨e, hm, h1⟩ := e2
      obtain ⟨f, hf, h2, -, -⟩ := edge_back hn hm
      rw [h1] at hf
      have := row_mem_lt hn hf
      exact key (view_mem.2 (.inl ⟨f, hf, by omega⟩))
    · rw [hl _ l a haN (getD_set_ne e1) (fun e hm => getD_set_ne (fun h => e2 ⟨e, hm, h⟩))]
      exact h.good a haN (by omega) fun e hm => by have := he e hm; have : e.1.toNat ≠ v := fun h => e2 ⟨e, hm, h⟩; omega
end Go.Proofs.YtfkmkpamdlhbgaaGreat
namespace Go.Proofs.YtfkmkpamdlhbgaaGreat
open Go.RowKit
/-! labels that all nodes accept prove the property -/
def AllAcc (n : Net) (s : Int) (ls : List Int) : Prop := ∀ v, v < n.ends.length → accAt n s ls v = true
theorem labOk_iff {n : Net} {s : Int} {ls : List Int} : labOk n s ls = true ↔ netOk n = true ∧ (1 ≤ s ∧ s ≤ 5) ∧ ls.length = n.ends.length ∧ ∀ x ∈ ls, 0 ≤ x ∧ x ≤ 999999999999 := by
  unfold labOk
  rw [Bool.and_eq_true, Bool.and_eq_true, Bool.and_eq_true, inB_iff, beq_iff_eq]
  constructor
  · rintro ⟨⟨⟨h1, h2⟩, h3⟩, h4⟩
    exact ⟨h1, h2, by omega, fun x hx => by
      unfold allB' at h4
      have := List.all_eq_true.1 h4 x hx
      exact inB_iff.1 this⟩
  · rintro ⟨h1, h2, h3, h4⟩
    refine ⟨⟨⟨h1, h2⟩, by omega⟩, ?_⟩
    unfold allB'
    exact List.all_eq_true.2 fun x hx => inB_iff.2 (h4 x hx)
/-- what runs along edges holds in the component -/
theorem rch_ind {n : Net} (hn : netOk n = true) {r : Nat} (hr : r < n.ends.length) (P : Nat → Prop) (h0 : P r) (hs : ∀ a b, a < n.ends.length → b < n.ends.length → (b : Int) ∈ bsee n (a : Int) → P a → P b) {w : Nat} (h : Rch n r w) : P w := by
  induction h with
  | refl => exact h0
  | step h1 h2 ih => exact hs _ _ (rch_lt hn hr h1) (rch_lt hn hr (h1.step h2)) h2 ih
/-- one leader -/
theorem ids_apart {n : Net} (hn : netOk n = true) (h0 : n.ids.length ≠ 0) {a b : Nat} (ha : a < n.ends.length) (hb : b < n.ends.length) (h : n.ids.getD a 0 = n.ids.getD b 0) : a = b := by
  have hi := (netOk_iff.1 hn).2.1
  rw [← sIds_eq] at hi
  unfold sIdsB at hi
  rw [Bool.and_eq_true, List.all_eq_true, Bool.or_eq_true, beq_iff_eq, beq_iff_eq] at hi
  have hl : n.ids.length = n.ends.length := by omega
  have hnd : n.ids.Nodup := (takes_nodup n.ids).1 fun i hi' => by
    have := hi.1 i (List.mem_range.2 hi')
    rw [Bool.and_eq_true, Bool.not_eq_true', List.contains_eq_mem, decide_eq_false_iff_not, getD_of_lt hi'] at this
    exact this.2
  rw [getD_of_lt (by omega), getD_of_lt (by omega)] at h
  rcases Nat.lt_trichotomy a b with c | c | c
  · exact absurd h (List.pairwise_iff_getElem.1 hnd a b (by omega) (by omega) c)
  · exact c
  · exact absurd h.symm (List.pairwise_iff_getElem.1 hnd b a (by omega) (by omega) c)
/-- labels with an identifier and a distance: in each component there is one node of distance 0, which has that identifier -/
structure IdDist (n : Net) (I D : Nat → Int) : Prop where
  same : ∀ v w : Nat, v < n.ends.length → (w : Int) ∈ bsee n (v : Int) → I w = I v
  zero : ∀ v, v < n.ends.length → D v = 0 → n.ids.getD v 0 = I v
  near : ∀ v, v < n.ends.length → 0 < D v → ∃ w : Nat, (w : Int) ∈ bsee n (v : Int) ∧ D w = D v - 1
  pos : ∀ v, v < n.ends.length → 0 ≤ D v
theorem IdDist.root {n : Net} (hn : netOk n = true) {I D : Nat → Int} (h : IdDist n I D) : ∀ (f v : Nat), v < n.ends.length → (D v).toNat ≤ f → ∃ r, r < n.ends.length ∧ Rch n v r ∧ D r = 0
  | f, v, hv, hf => by
    have h0 := h.pos v hv
    by_cases e : D v = 0
    · exact ⟨v, hv, Rch.refl, e⟩
    · obtain ⟨w, h1, h2⟩ := h.near v hv (by omega)
      have hw : w < n.ends.length := rch_lt hn hv (Rch.refl.step h1)
      cases f with
      | zero => omega
      | succ f =>
        obtain ⟨r, h3, h4, h5⟩ := h.root hn f w hw (by omega)
        exact ⟨r, h3, (Rch.refl.step h1).trans h4, h5⟩
theorem IdDist.ids {n : Net} (hn : netOk n = true) {I D : Nat → Int} (h : IdDist n I D) {v w : Nat} (hv : v < n.ends.length) (hr : Rch n v w) : I w = I v :=
  rch_ind hn hv (fun x => I x = I v) rfl (fun a b ha _ hab ih => (h.same a b ha hab).trans ih) hr
theorem IdDist.one {n : Net} (hn : netOk n = true) (h0 : n.ids.length ≠ 0) {I D : Nat → Int} (h : IdDist n I D) {a b : Nat} (ha : a < n.ends.length) (hb : b < n.ends.length) (hr : Rch n a b) (da : D a = 0) (db : D b = 0) : a = b :=
  ids_apart hn h0 ha hb (by rw [h.zero a ha da, h.zero b hb db, h.ids hn ha hr])
end Go.Proofs.YtfkmkpamdlhbgaaGreat
namespace Go.Proofs.YtfkmkpamdlhbgaaGreat
open Go.RowKit
/-! an accepted proof of even components -/
structure EvAcc (n : Net) (ls : List Int) (v : Nat) : Prop where
  ids : n.ids.length ≠ 0
  same : ∀ w : Nat, (w : Int) ∈ bsee n (v : Int) → ev0 (ls.getD w 0) = ev0 (ls.getD v 0)
  sum : ev3 (ls.getD v 0) = evSum ls (ls.getD v 0) (n.ends.getD v []) (n.ends.getD v []).length % 2
  cases_ : (ev1 (ls.getD v 0) = 0 ∧ ev2 (ls.getD v 0) = 9 ∧ n.ids.getD v 0 = ev0 (ls.getD v 0) ∧ ev3 (ls.getD v 0) = 0) ∨ (0 < ev1 (ls.getD v 0) ∧ ∃ (i : Nat), i < (n.ends.getD v []).length ∧ (i : Int) = ev2 (ls.getD v 0) ∧ ev1 (lab ls ((n.ends.getD v []).getD i (0, 0))) = ev1 (ls.getD v 0) - 1)
def farAt (n : Net) (v i : Nat) : Nat := ((n.ends.getD v []).getD i (0, 0)).1.toNat
end Go.Proofs.YtfkmkpamdlhbgaaGreat
namespace Go.Proofs.YtfkmkpamdlhbgaaGreat
open Go.RowKit
/-! an accepted proof of a forest -/
/-- labels around a node -/
structure FoAcc (n : Net) (ls : List Int) (v : Nat) : Prop where
  zero : ls.getD v 0 = 0 → ∀ i, i < (n.ends.getD v []).length → ls.getD (farAt n v i) 0 = 1
  one : ls.getD v 0 ≠ 0 → ∃ i, i < (n.ends.getD v []).length ∧ ls.getD (farAt n v i) 0 = ls.getD v 0 - 1 ∧ ∀ j, j < (n.ends.getD v []).length → j ≠ i → ls.getD (farAt n v j) 0 = ls.getD v 0 + 1
/-- the port down -/
def foPort (n : Net) (ls : List Int) (v i : Nat) : Prop := i < (n.ends.getD v []).length ∧ ls.getD (farAt n v i) 0 = ls.getD v 0 - 1
/-- where one can come to from w without its port down -/
inductive Und (n : Net) (ls : List Int) (w : Nat) : Nat → Prop
  | self : Und n ls w w
  | up {x i : Nat} : Und n ls w (farAt n x i) → x < n.ends.length → foPort n ls x i → Und n ls w x
end Go.Proofs.YtfkmkpamdlhbgaaGreat
namespace Go.Proofs.YtfkmkpamdlhbgaaGreat
open Go.RowKit
/-! the labels of the prover are accepted: two, three colours, a leader -/
theorem id_rng {n : Net} (hn : netOk n = true) (h0 : n.ids.length ≠ 0) : n.ids.length = n.ends.length ∧ ∀ v, v < n.ends.length → 1 ≤ n.ids.getD v 0 ∧ n.ids.getD v 0 ≤ 999999 := by
  have hi := (netOk_iff.1 hn).2.1
  rw [← sIds_eq] at hi
  unfold sIdsB at hi
  rw [Bool.and_eq_true, List.all_eq_true, Bool.or_eq_true, beq_iff_eq, beq_iff_eq] at hi
  have hl : n.ids.length = n.ends.length := by omega
  refine ⟨hl, fun v hv => ?_⟩
  have := hi.1 v (List.mem_range.2 (by omega))
  rw [Bool.and_eq_true] at this
  exact inB_iff.1 this.1
/-- a neighbour nearer to the root -/
theorem nearer {n : Net} (hn : netOk n = true) {r v : Nat} (hr : r < n.ends.length) (hrv : Rch n r v) (hne : v ≠ r) : 0 < distI n r v ∧ ∃ w : Nat, (w : Int) ∈ bsee n (v : Int) ∧ distI n r w = distI n r v - 1 := by
  have hd := dist_is hn hr
  obtain ⟨y, h1, h2, h3⟩ := hd.par v hrv hne
  have h4 := hd.pos y h1
  have h3' : distI n r y + 1 = distI n r v := h3
  have h4' : 0 ≤ distI n r y := h4
  exact ⟨by omega, y, see_sym hn (rch_lt hn hr h1) h2, by omega⟩
theorem distI_bd {n : Net} (hn : netOk n = true) {r v : Nat} (hr : r < n.ends.length) (hv : v < n.ends.length) : -1 ≤ distI n r v ∧ distI n r v < n.ends.length := by
  have := (dist_bd hn hr hv)
  unfold distI
  omega
theorem map_getD {n : Net} {f : Nat → Int} {v : Nat} (hv : v < n.ends.length) : ((List.range n.ends.length).map f).getD v 0 = f v := by
  rw [List.getD_eq_getElem?_getD, List.getElem?_map, List.getElem?_range hv]; rfl
/-- the leader of a component -/
theorem lead_spec {n : Net} (hn : netOk n = true) (h : leadAll n = true) {v : Nat} (hv : v < n.ends.length) : ∃ r : Nat, leadOf n v = (r : Int) ∧ r < n.ends.length ∧ leastB n r = leastB n v ∧ n.inputs.getD r 0 = 1 ∧ (∀ w, w < n.ends.length → leastB n w = leastB n v → n.inputs.getD w 0 = 1 → w = r) ∧ Rch n r v := by
  have h1 := List.all_eq_true.1 h v (List.mem_range.2 hv)
  unfold oneLead at h1
  have h1 := eq_of_beq h1
  unfold leadOf ownTo
  unfold onesOf at h1
  cases ho : onesTo n (leastB n v) n.ends.length with
  | nil => rw [ho] at h1; simp at h1
  | cons r l =>
    rw [ho] at h1
    have hl : l = [] := by simpa using h1
    subst hl
    have hm : ∀ w, w ∈ onesTo n (leastB n v) n.ends.length ↔ w < n.ends.length ∧ leastB n w = leastB n v ∧ n.inputs.getD w 0 = 1 := fun w => by
      unfold onesTo oneIn
      rw [List.mem_filter, List.mem_range, Bool.and_eq_true, decide_eq_true_eq, decide_eq_true_eq]
    have hr := (hm r).1 (by rw [ho]; simp)
    refine ⟨r, rfl, hr.1, hr.2.1, hr.2.2, fun w a b c => ?_, ?_⟩
    · have := (hm w).2 ⟨a, b, c⟩
      rw [ho] at this
      simpa using this
    · have a1 := (least_spec hn hr.1).1
      have a2 := (least_spec hn hv).1.symm hn hv
      rw [hr.2.1] at a1
      exact a1.trans a2
end Go.Proofs.YtfkmkpamdlhbgaaGreat
namespace Go.Proofs.YtfkmkpamdlhbgaaGreat
open Go.RowKit
/-! the distances of a forest are accepted -/
end Go.Proofs.YtfkmkpamdlhbgaaGreat
