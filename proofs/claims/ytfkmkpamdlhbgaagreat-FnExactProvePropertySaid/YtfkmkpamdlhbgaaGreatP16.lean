/- Parts of the proof: walks of functions and plain laws. -/
import Derived.Test.YtfkmkpamdlhbgaaGreatP1
import Derived.Test.YtfkmkpamdlhbgaaGreatP4
import Derived.Test.YtfkmkpamdlhbgaaGreatP5
import Derived.Test.YtfkmkpamdlhbgaaGreatP15
import Derived.Test.YtfkmkpamdlhbgaaGreatP9
import Derived.Test.YtfkmkpamdlhbgaaGreatP8
import Derived.Test.YtfkmkpamdlhbgaaGreatP3
import Derived.Test.YtfkmkpamdlhbgaaGreatP7
namespace Go.Proofs.YtfkmkpamdlhbgaaGreat
open Go.RowKit
/-! lists of lists of integers: read, sized, copied, compared, marked, held -/
def IntSS (w : World) (v : Value) (xss : List (List Int)) : Prop :=
  ∃ (A : Option Addr) (c : Nat), v = .slice A xss.length c ∧ xss.length ≤ c ∧ c ≤ maxLen ∧
    (∀ k xs, xss[k]? = some xs → ∃ b off u, A = some ⟨b, off, none⟩ ∧ w.cell? ⟨b, off + k, none⟩ = some u ∧ IntS w u xs)
theorem IntSS.keep {w w' : World} {v : Value} {xs : List (List Int)} (h : IntSS w v xs) (hb : Below w.heap.size w w') : IntSS w' v xs := by
  obtain ⟨A, c, hv, hc, hm, hA⟩ := h
  refine ⟨A, c, hv, hc, hm, fun k x hk => ?_⟩
  obtain ⟨b, off, u, hA', h1, h2⟩ := hA k x hk
  exact ⟨b, off, u, hA', bc hb h1, h2.keep hb⟩
def OwnII : World → Nat → Value → List (List Int) → List Nat → Prop := OwnRows 25 OwnI
theorem lawII : RowLaw OwnII := rows_law _ lawI
theorem OwnI.read {w : World} {base : Nat} {v : Value} {xs : List Int} {S : List Nat} (h : OwnI w base v xs S) : IntS w v xs := h.1.ints
theorem OwnII.read {w : World} {base : Nat} {v : Value} {ess : List (List Int)} {S : List Nat} (h : OwnII w base v ess S) : IntSS w v ess := by
  obtain ⟨vs, Ss, h1, h2, h3, h4, h5⟩ := h
  rcases ownsRow_cases h1 with ⟨rfl, h0⟩ | ⟨g, c, rfl, hb, hg, hc, hm⟩
  · obtain rfl : ess = [] := List.eq_nil_of_length_eq_zero h0
    exact ⟨none, 0, rfl, Nat.le_refl _, Nat.zero_le _, fun k x hk => by simp at hk⟩
  · have hvl : vs.length = ess.length := by simpa using h1.1
    refine ⟨_, c, rfl, hc, hm, fun k x hk => ?_⟩
    have hlt := lt_of_get hk
    obtain ⟨u, hu⟩ := getx vs k (by omega)
    obtain ⟨T, hT⟩ := getx Ss k (by omega)
    exact ⟨g, 0, u, rfl, by rw [Nat.zero_add, h1.cellAt (cap := c) _ (by omega)]; exact hu, OwnI.read (h3 k u x T hu hk hT)⟩
theorem rowI_info : (Tryz.prog.info? 25).map (fun i => (i.zero, i.size, i.bytes)) = some (some (.slice none 0 0), 1, 24) := by kernel_rfl
section
variable {ops : Array Oper} {rest : List Oper} {o : Oper} {a : Act} {Q : Exit → Act → World → Prop}
theorem mk_rowsI (w : World) (hg : o.guard = none) (l c : Operand) (hop : o.op = Op.makeSlice 30 l c) (n : Nat) (hl : a.eval l = .int .i64 (n : Int)) (hc : a.eval c = .int .i64 (n : Int)) (hn : n ≤ 1048576)
    (hK : ∀ w', OwnII w' w.heap.size (.slice (some ⟨w.heap.size, 0, none⟩) n n) (List.replicate n []) [w.heap.size] → Below w.heap.size w w' → wpList Tryz.prog ops Q rest (a.put o.dst (.slice (some ⟨w.heap.size, 0, none⟩) n n)) w') : wpList Tryz.prog ops Q (o :: rest) a w := by
  obtain ⟨i0, hi, hz0, hz1, hz2⟩ := info_parts rowI_info
  refine wpList_plain hg fun K hK' => ?_
  have hr := run_make (P := Tryz.prog) w 30 25 i0 (.slice none 0 0) Tryz.underlying30 hi hz0 .i64 .i64 n n (by omega) (Int.le_refl _) (by rw [hz2]; omega) (by omega)
  rw [hz1] at hr
  simp only [Int.toNat_natCast] at hr
  rw [show (Value.slice none 0 0).cells = #[Value.slice none 0 0] from rfl, made_rep] at hr
  unfold Oper.wp
  simp only [execOp, hop, hl, hc, Sem.run_bind, hr, Result.andThen_ok, Sem.run_pure]
  refine hK' _ _ (hK _ ?_ (below_alloc _ _))
  have := OwnRows.made (R := OwnI) (e := 25) n (by simp [maxLen]; omega) ownI_nil w
  rw [List.toArray_replicate] at this
  exact this
end
-- the marks
end Go.Proofs.YtfkmkpamdlhbgaaGreat
namespace Go.Proofs.YtfkmkpamdlhbgaaGreat
open Go.RowKit
/-- a row of rows, one row more -/
theorem OwnRows.snoc {β : Type} {R : World → Nat → Value → β → List Nat → Prop} {e : TypeId} (L : RowLaw R) {w w' : World} {base g cap : Nat} {v u : Value} {xs : List β} {x : β} {S T : List Nat} (h : OwnRows e R w base v xs S) (hu : R w base u x T) (hd : ∀ j ∈ T, j ∉ S)
    (vs : List Value) (Ss : List (List Nat)) (h1 : w.ownsRow base e 1 v xs.length vs) (h2 : Ss.length = xs.length) (h3 : ∀ (k : Nat) u x T, vs[k]? = some u → xs[k]? = some x → Ss[k]? = some T → R w base u x T) (h4 : S = v.ownBlock.toList ++ Ss.flatten) (h5 : S.Nodup)
    (q1 : w'.ownsRow base e 1 (.slice (some ⟨g, 0, none⟩) (xs.length + 1) cap) (xs.length + 1) (vs ++ [u])) (q2 : w.grownBy w' v.ownBlock) (q3 : v.ownBlock = some g ∨ g = w.heap.size) :
    ∃ S', OwnRows e R w' base (.slice (some ⟨g, 0, none⟩) (xs.length + 1) cap) (xs ++ [x]) S' ∧ (∀ j ∈ S', j ∈ S ∨ j ∈ T ∨ j = w.heap.size) := by
  have hS := (rows_law e L).range h
  have hTr := L.range hu
  have hvl : vs.length = xs.length := by simpa using h1.1
  have h5' := h5
  rw [h4, List.nodup_append] at h5'
  have hin : ∀ j ∈ Ss.flatten, j ∈ S := fun j hj => by rw [h4]; exact List.mem_append_right _ hj
  have hon := Only.of_grown q2
  have hnv : ∀ j ∈ Ss.flatten, j ∉ v.ownBlock.toList := fun j hj hv => h5'.2.2 j hv j hj rfl
  have hTv : ∀ j ∈ T, j ∉ v.ownBlock.toList := fun j hj hv => hd j hj (by rw [h4]; exact List.mem_append_left _ hv)
  have hg : g ∉ Ss.flatten := fun hg => by
    rcases q3 with q3 | q3
    · exact hnv g hg (by rw [q3]; simp)
    · have := (hS g (hin g hg)).2; omega
  have hgT : g ∉ T := fun hg => by
    rcases q3 with q3 | q3
    · exact hTv g hg (by rw [q3]; simp)
    · have := (hTr g hg).2; omega
  refine ⟨[g] ++ (Ss ++ [T]).flatten, ⟨vs ++ [u], Ss ++ [T], ?_, by simp [h2], ?_, by simp [Value.ownBlock], ?_⟩, ?_⟩
  · rw [List.length_append]; exact q1
  · intro k u' x' T' hu' hx' hT'
    rcases Nat.lt_or_ge k xs.length with hk | hk
    · rw [List.getElem?_append_left (by omega)] at hu' hx' hT'
      exact L.only (h3 k u' x' T' hu' hx' hT') hon (fun j hj => hnv j (List.mem_flatten.2 ⟨T', List.mem_of_getElem? hT', hj⟩))
    · have hk1 : k = xs.length := by
        have := lt_of_get hx'
        simp at this; omega
      subst hk1
      rw [List.getElem?_append_right (Nat.le_refl _), Nat.sub_self] at hx'
      rw [← hvl, List.getElem?_append_right (Nat.le_refl _), Nat.sub_self] at hu'
      rw [← h2, List.getElem?_append_right (Nat.le_refl _), Nat.sub_self] at hT'
      simp at hu' hx' hT'
      subst hu' hx' hT'
      exact L.only hu hon hTv
  · rw [List.flatten_append, List.nodup_append]
    refine ⟨by simp, ?_, ?_⟩
    · rw [List.nodup_append]
      refine ⟨h5'.2.1, by simpa using L.nodup hu, ?_⟩
      intro a ha b hb e
      simp at hb
      subst e
      exact hd a hb (hin a ha)
    · intro a ha b hb e
      simp at ha
      subst e ha
      rcases List.mem_append.1 hb with hb | hb
      · exact hg hb
      · simp at hb; exact hgT hb
  · intro j hj
    rw [List.flatten_append] at hj
    rcases List.mem_append.1 hj with hj | hj
    · simp at hj
      subst hj
      rcases q3 with q3 | q3
      · left; rw [h4, q3]; simp
      · exact .inr (.inr q3)
    · rcases List.mem_append.1 hj with hj | hj
      · exact .inl (hin j hj)
      · simp at hj; exact .inr (.inl hj)
end Go.Proofs.YtfkmkpamdlhbgaaGreat
namespace Go.Proofs.YtfkmkpamdlhbgaaGreat
open Go.RowKit
/-! rows of rows of bools; all ports are kept -/
def encB (b : Bool) : List Value := [.bool b]
theorem encB_flat (xs : List Bool) : xs.flatMap encB = xs.map Value.bool := by
  induction xs with
  | nil => rfl
  | cons x xs ih => rw [List.flatMap_cons, ih]; rfl
def OwnB : World → Nat → Value → List Bool → List Nat → Prop := LeafR 4 1 encB
theorem lawB : RowLaw OwnB := leaf_law _ _ _
def OwnBB : World → Nat → Value → List (List Bool) → List Nat → Prop := OwnRows 175 OwnB
theorem lawBB : RowLaw OwnBB := rows_law _ lawB
theorem bool_info : (Tryz.prog.info? 4).map (fun i => (i.zero, i.size, i.bytes)) = some (some (.bool false), 1, 1) := by kernel_rfl
theorem rowB_info : (Tryz.prog.info? 175).map (fun i => (i.zero, i.size, i.bytes)) = some (some (.slice none 0 0), 1, 24) := by kernel_rfl
theorem OwnB.row {w : World} {base : Nat} {v : Value} {xs : List Bool} {S : List Nat} (h : OwnB w base v xs S) : w.ownsRow base 4 1 v xs.length (xs.map Value.bool) := by
  have := h.1
  rwa [encB_flat] at this
theorem OwnB.mk {w : World} {base : Nat} {v : Value} {xs : List Bool} (h : w.ownsRow base 4 1 v xs.length (xs.map Value.bool)) : OwnB w base v xs v.ownBlock.toList := ⟨by rw [encB_flat]; exact h, rfl⟩
theorem OwnB.cell {w : World} {base g c n : Nat} {xs : List Bool} {S : List Nat} {k : Nat} {x : Bool} (h : OwnB w base (.slice (some ⟨g, 0, none⟩) n c) xs S) (hk : xs[k]? = some x) : w.cell? ⟨g, k, none⟩ = some (.bool x) := by
  have h' := h.row
  obtain rfl := ownsRow_len h'
  have hlt : k < xs.length := lt_of_get hk
  rw [World.ownsRow.cellAt h' k (by omega)]; simp [hk]
theorem OwnB.set {w : World} {base g c n : Nat} {xs : List Bool} {S : List Nat} (k : Nat) (x : Bool) (h : OwnB w base (.slice (some ⟨g, 0, none⟩) n c) xs S) : OwnB (w.setCell ⟨g, k, none⟩ (.bool x)) base (.slice (some ⟨g, 0, none⟩) n c) (xs.set k x) S := by
  have hS := h.2
  have h' := h.row
  obtain rfl := ownsRow_len h'
  have := (World.ownsRow.stored h' k (.bool x)).1
  refine ⟨?_, hS⟩
  rw [encB_flat, List.length_set, List.map_set]
  exact this
/-- a row of bools, for reading -/
def BoolS (w : World) (v : Value) (xs : List Bool) : Prop :=
  ∃ (A : Option Addr) (c : Nat), v = .slice A xs.length c ∧ xs.length ≤ c ∧ c ≤ maxLen ∧ ∀ k x, xs[k]? = some x → ∃ b off, A = some ⟨b, off, none⟩ ∧ w.cell? ⟨b, off + k, none⟩ = some (.bool x)
def BoolSS (w : World) (v : Value) (xss : List (List Bool)) : Prop :=
  ∃ (A : Option Addr) (c : Nat), v = .slice A xss.length c ∧ xss.length ≤ c ∧ c ≤ maxLen ∧
    (∀ k xs, xss[k]? = some xs → ∃ b off u, A = some ⟨b, off, none⟩ ∧ w.cell? ⟨b, off + k, none⟩ = some u ∧ BoolS w u xs)
theorem BoolS.keep {w w' : World} {v : Value} {xs : List Bool} (h : BoolS w v xs) (hb : Below w.heap.size w w') : BoolS w' v xs := by
  obtain ⟨A, c, hv, hc, hm, hA⟩ := h
  refine ⟨A, c, hv, hc, hm, fun k x hk => ?_⟩
  obtain ⟨b, off, hA', h1⟩ := hA k x hk
  exact ⟨b, off, hA', bc hb h1⟩
theorem BoolSS.keep {w w' : World} {v : Value} {xs : List (List Bool)} (h : BoolSS w v xs) (hb : Below w.heap.size w w') : BoolSS w' v xs := by
  obtain ⟨A, c, hv, hc, hm, hA⟩ := h
  refine ⟨A, c, hv, hc, hm, fun k x hk => ?_⟩
  obtain ⟨b, off, u, hA', h1, h2⟩ := hA k x hk
  exact ⟨b, off, u, hA', bc hb h1, h2.keep hb⟩
theorem OwnB.read {w : World} {base : Nat} {v : Value} {xs : List Bool} {S : List Nat} (h : OwnB w base v xs S) : BoolS w v xs := by
  rcases ownsRow_cases h.row with ⟨rfl, h0⟩ | ⟨g, c, rfl, hb, hg, hc, hm⟩
  · obtain rfl : xs = [] := List.eq_nil_of_length_eq_zero h0
    exact ⟨none, 0, rfl, Nat.le_refl _, Nat.zero_le _, fun k x hk => by simp at hk⟩
  · exact ⟨_, c, rfl, hc, hm, fun k x hk => ⟨g, 0, rfl, by rw [Nat.zero_add]; exact h.cell hk⟩⟩
theorem OwnBB.read {w : World} {base : Nat} {v : Value} {ess : List (List Bool)} {S : List Nat} (h : OwnBB w base v ess S) : BoolSS w v ess := by
  obtain ⟨vs, Ss, h1, h2, h3, h4, h5⟩ := h
  rcases ownsRow_cases h1 with ⟨rfl, h0⟩ | ⟨g, c, rfl, hb, hg, hc, hm⟩
  · obtain rfl : ess = [] := List.eq_nil_of_length_eq_zero h0
    exact ⟨none, 0, rfl, Nat.le_refl _, Nat.zero_le _, fun k x hk => by simp at hk⟩
  · have hvl : vs.length = ess.length := by simpa using h1.1
    refine ⟨_, c, rfl, hc, hm, fun k x hk => ?_⟩
    have hlt := lt_of_get hk
    obtain ⟨u, hu⟩ := getx vs k (by omega)
    obtain ⟨T, hT⟩ := getx Ss k (by omega)
    exact ⟨g, 0, u, rfl, by rw [Nat.zero_add, h1.cellAt (cap := c) _ (by omega)]; exact hu, OwnB.read (h3 k u x T hu hk hT)⟩
theorem ownBB_nil (w : World) (base : Nat) : OwnBB w base (.slice none 0 0) [] [] := ⟨[], [], World.ownsRow_nil w base _ _, rfl, fun k u x T h => by simp at h, by simp [Value.ownBlock], by simp⟩
section
variable {ops : Array Oper} {rest : List Oper} {o : Oper} {a : Act} {Q : Exit → Act → World → Prop}
theorem mk_bools (w : World) (hg : o.guard = none) (l c : Operand) (hop : o.op = Op.makeSlice 175 l c) (L C : Int) (n : Nat) (hl : a.eval l = .int .i64 L) (hc : a.eval c = .int .i64 C) (hL : L = (n : Int)) (hC : C = (n : Int)) (hn : n ≤ 17592186044416)
    (hK : ∀ w', OwnB w' w.heap.size (.slice (some ⟨w.heap.size, 0, none⟩) n n) (List.replicate n false) [w.heap.size] → Below w.heap.size w w' → wpList Tryz.prog ops Q rest (a.put o.dst (.slice (some ⟨w.heap.size, 0, none⟩) n n)) w') : wpList Tryz.prog ops Q (o :: rest) a w := by
  obtain ⟨i0, hi, hz0, hz1, hz2⟩ := info_parts bool_info
  refine wpList_make_full w hg l c 175 hop w.heap.size 4 i0 (.bool false) 1 Tryz.underlying175 hi hz0 hz1 .i64 .i64 L C n hl hc hL hC (by rw [hz2]; omega) (by unfold maxLen; omega) (Nat.le_refl _) ?_
  intro w' ho hgr
  have ho' : OwnB w' w.heap.size (.slice (some ⟨w.heap.size, 0, none⟩) n n) (List.replicate n false) (Value.slice (some ⟨w.heap.size, 0, none⟩) n n).ownBlock.toList := by
    refine OwnB.mk ?_
    rw [List.length_replicate, List.map_replicate]
    rw [show (Value.bool false).cells = #[Value.bool false] from rfl, toList_madeCells_one] at ho
    simpa using ho
  exact hK w' ho' (below_grown hgr)
theorem app_rowBB {w : World} (hgd : o.guard = none) (s x : Operand)
    (ho : o.op = .call { callee := .builtin .append, args := #[s, x], argTypes := #[173, 173] }) {base : Nat} {v u : Value} {xss : List (List Bool)} {S T : List Nat} {xs : List Bool} (hs : a.eval s = v) (h : OwnBB w base v xss S)
    (b : Nat) (hx : a.eval x = .slice (some ⟨b, 0, none⟩) 1 1) (hc : w.cell? ⟨b, 0, none⟩ = some u) (hu : OwnB w base u xs T) (hd : ∀ j ∈ T, j ∉ S) (hl : xss.length + 1 ≤ 4000000) (hbs : base ≤ w.heap.size)
    (k : ∀ g cap w' S', OwnBB w' base (.slice (some ⟨g, 0, none⟩) (xss.length + 1) cap) (xss ++ [xs]) S' → Below base w w' → wpList Tryz.prog ops Q rest (a.put o.dst (.slice (some ⟨g, 0, none⟩) (xss.length + 1) cap)) w') : wpList Tryz.prog ops Q (o :: rest) a w := by
  obtain ⟨i0, hi, hz0, hz1, hz2⟩ := info_parts rowB_info
  have hvr := lawBB.range h
  have h1b := h
  obtain ⟨vs, Ss, r1, r2, r3, r4, r5⟩ := h
  obtain ⟨A, m, c, rfl⟩ := lawB.one hu
  refine wpList_append_lies w hgd s x 173 ho base 175 i0 _ 1 24 Tryz.underlying173 hi hz0 hz1 hz2 rfl (by decide) v xss.length vs hs r1 ⟨b, 0, none⟩ 1 1 [.slice A m c] hx rfl
    (by intro j u hj; match j, hj with | 0, hj => (simp at hj; subst hj; simpa [Addr.add] using hc) | j + 1, hj => simp at hj) (by simp [Value.oneCell']) (by omega) (by unfold maxLen; omega) (by omega) hbs w.heap.size rfl ?_
  intro g cap w' q1 q2 q3 q4
  obtain ⟨S', o1, -⟩ := OwnRows.snoc lawB h1b hu hd vs Ss r1 r2 r3 r4 r5 q1 q2 q3
  exact k g cap w' S' o1 (Below.grown (Below.refl base w |>.mono (Nat.le_refl _)) q2 hbs (fun q hq => (hvr q (by rw [r4, hq]; simp)).1))
end
def allTo (n : Net) (k : Nat) : List (List Bool) := (n.ends.take k).map fun es => List.replicate es.length true
theorem allTo_succ {n : Net} {k : Nat} {es : List (Int × Int)} (h : n.ends[k]? = some es) : allTo n (k + 1) = allTo n k ++ [List.replicate es.length true] := by
  unfold allTo
  rw [take_snoc h, List.map_append]
  rfl
theorem allTo_len {n : Net} {k : Nat} (h : k ≤ n.ends.length) : (allTo n k).length = k := by simp [allTo]; omega
set_option maxRecDepth 100000 in
set_option maxHeartbeats 8000000 in
theorem neAll_any (ve vi vn : Value) (n : Net) (w : World) (h : NetIn w ve vi vn n) (hn : netOk n = true) :
    Calls Tryz.prog 186 #[.agg #[ve, vi, vn]] w fun e w' => ∃ u S, e = .returned u ∧ OwnBB w' w.heap.size u (allTo n n.ends.length) S ∧ Below w.heap.size w w' := by
  have hnl := netOk_len hn
  have hnl1 := hnl.1
  have hnl2 := hnl.2
  have Hn := Lib.hid hn
  obtain ⟨w0, hw0⟩ : ∃ w0, w0 = (w).alloc (.cells #[ve, vi, vn] 27) := ⟨_, rfl⟩
  have hb0 : Below w.heap.size w w0 := by rw [hw0]; exact ((Below.refl _ _).alloc (by simp) _)
  have H := Lib.hid (h.keep hb0)
  obtain ⟨h1, h2, h3⟩ := h.keep hb0
  obtain ⟨A, c, rfl, hlc, hm, hA⟩ := h1
  obtain ⟨A2, c2, rfl, _, hm2, _⟩ := h2
  obtain ⟨A3, c3, rfl, _, hm3, _⟩ := h3
  unfold maxLen at hm hm2 hm3
  have p00 : ∀ W, Since w0 W → W.cell? ⟨w.heap.size, 0, none⟩ = some (.slice A n.ends.length c) := have_cell (by rw [hw0]; simp)
  have p01 : ∀ W, Since w0 W → W.cell? ⟨w.heap.size, 1, none⟩ = some (.slice A2 n.ids.length c2) := have_cell (by rw [hw0]; simp)
  have p02 : ∀ W, Since w0 W → W.cell? ⟨w.heap.size, 2, none⟩ = some (.slice A3 n.inputs.length c3) := have_cell (by rw [hw0]; simp)
  have Hb0 := Lib.hid hb0
  have Hw0 := Lib.hid hw0
  have HA := Lib.hid hA
  clear hA h
  clear hb0 hw0
  have hs0 : Since w0 w0 := since_refl _
  clear hn hnl
  go_enter Tryz.func186, Tryz.ntmps186
  go_upto_region 1 with (fail)
  rw [← Hw0.out]
  go_wp2
  go_loopw [3, 11] (fun u i wr => ∃ (k : Nat) (S : List Nat), k ≤ n.ends.length ∧ i = .int .i64 k ∧ OwnBB wr w0.heap.size u (allTo n k) S ∧ Since w0 wr) (fun _ i _ => n.ends.length - (intOf i).toNat)
  case atStart => exact ⟨0, [], Nat.zero_le _, rfl, ownBB_nil _ _, hs0⟩
  case round =>
    obtain ⟨k, S, hk, rfl, ho, hsr⟩ := hrel
    have Ho := Lib.hid ho
    have Hs := Lib.hid hsr
    clear hs0 ho
    by_cases hlt : k < n.ends.length
    · obtain ⟨es, hes⟩ := getx n.ends k hlt
      have hes6 := (netOk_row Hn.out hes).1
      obtain ⟨b, offr, cr, ur, hA1, hkr, hc1, hro⟩ := row_at H.out.es hes
      cases hA1
      obtain ⟨A1, z1, rfl, hz1, hz2, hA1⟩ := hro
      unfold maxLen at hz2
      have r1 := lift_cell (have_cell hc1) Hs.out
      have q5 := r1 wr (since_refl _)
      have m4 : IntKind.i64.wrap ((k : Int) + 1) = (k : Int) + 1 := wr64 _ (by omega) (by omega)
      have Hnx := Lib.hid (allTo_succ hes)
      have Hlen : Hid ((allTo n k).length + 1 ≤ 4000000) := by show _ ≤ _; rw [allTo_len hk]; omega
      clear hes hc1 hA1
      go_wp2_with (at_make; refine mk_bools _ rfl _ _ rfl _ _ es.length rfl rfl rfl rfl (by omega) ?_; intro w1 ho1 hb1)
      obtain ⟨g, hg⟩ : ∃ g, g = wr.heap.size := ⟨_, rfl⟩
      rw [← hg] at ho1 ⊢
      have Hg := Lib.hid hg
      have Ho1 : Hid (OwnB w1 g (.slice (some ⟨g, 0, none⟩) es.length es.length) (List.replicate 0 true ++ List.replicate (es.length - 0) false) [g]) := by show OwnB _ _ _ _ _; simpa using ho1
      have HR1 := Lib.hid (lawBB.keep Ho.out hb1)
      have Hs1 : Hid (Since w0 w1) := Hs.out.after hb1
      have HSg : Hid (∀ j ∈ S, j < g) := fun j hj => by rw [hg]; exact (lawBB.range Ho.out j hj).2
      have Hg0 : Hid (w0.heap.size ≤ g) := by show _ ≤ _; rw [hg]; exact Hs.out.below.size
      clear ho1 hb1 hg hsr
      go_wp2
      go_loopw [20] (fun i wq => ∃ j : Nat, j ≤ es.length ∧ i = .int .i64 j ∧ OwnB wq g (.slice (some ⟨g, 0, none⟩) es.length es.length) (List.replicate j true ++ List.replicate (es.length - j) false) [g] ∧ OwnBB wq w0.heap.size u3 (allTo n k) S ∧ Since w0 wq) (fun i _ => es.length - (intOf i).toNat)
      case atStart => exact ⟨0, Nat.zero_le _, rfl, Ho1.out, HR1.out, Hs1.out⟩
      case round =>
        obtain ⟨j, hj, rfl, hob, hobb, hsq⟩ := hrel
        have Hob := Lib.hid hob
        have Hobb := Lib.hid hobb
        have Hsq := Lib.hid hsq
        clear hob hobb
        by_cases hlj : j < es.length
        · have m3 : IntKind.i64.wrap ((j : Int) + 1) = (j : Int) + 1 := wr64 _ (by omega) (by omega)
          obtain ⟨y, hy⟩ := getx (List.replicate j true ++ List.replicate (es.length - j) false) j (by simp; omega)
          have cz := Hob.out.cell hy
          have fz := ownsRow_free Hob.out.row j
          have He : Hid ((List.replicate j true ++ List.replicate (es.length - j) false).set j true = List.replicate (j + 1) true ++ List.replicate (es.length - (j + 1)) false) := by
            show _ = _
            rw [List.set_append_right _ _ (by simp), List.length_replicate, Nat.sub_self, show es.length - j = (es.length - (j + 1)) + 1 by omega, List.replicate_succ, List.set_cons_zero, List.replicate_succ', List.append_assoc]
            rfl
          clear hy hsq
          go_wp2
          go_roundw
          case rel => exact ⟨j + 1, by omega, by first | rfl | go_num, by rw [← He.out]; exact Hob.out.set j true, lawBB.stable Hobb.out (fun i hi => Below.heap_setCell wr _ _ i (by have := HSg.out i hi; show i ≠ g; omega)), Below.setCell Hsq.out Hg0.out _⟩
          case measure => simp [intOf]; omega
        · obtain rfl : j = es.length := by omega
          have HB2 : Hid (OwnB wr w0.heap.size (.slice (some ⟨g, 0, none⟩) es.length es.length) (List.replicate es.length true) [g]) := by
            have := Hob.out
            rw [Nat.sub_self, List.replicate_zero, List.append_nil] at this
            exact lawB.mono this Hg0.out
          obtain ⟨wA, hwA⟩ : ∃ wA, wA = wr.alloc (.cells #[.slice (some ⟨g, 0, none⟩) es.length es.length] 175) := ⟨_, rfl⟩
          have HsA : Hid (Since w0 wA) := by rw [hwA]; exact since_alloc _ Hsq.out
          have HBA : Hid (OwnB wA w0.heap.size (.slice (some ⟨g, 0, none⟩) es.length es.length) (List.replicate es.length true) [g]) := by rw [hwA]; exact lawB.keep HB2.out (below_alloc _ _)
          have HOA : Hid (OwnBB wA w0.heap.size u3 (allTo n k) S) := by rw [hwA]; exact lawBB.keep Hobb.out (below_alloc _ _)
          have HcA : Hid (wA.cell? ⟨wr.heap.size, 0, none⟩ = some (.slice (some ⟨g, 0, none⟩) es.length es.length)) := by show _ = _; rw [hwA]; simp
          have HwA := Lib.hid hwA
          have HD : Hid (∀ j ∈ [g], j ∉ S) := fun j hj hS => by have := HSg.out j hS; simp at hj; omega
          clear hwA hsq
          go_wp2_with (at_builtin; rw [← HwA.out]; refine app_rowBB rfl _ _ rfl rfl HOA.out wr.heap.size rfl HcA.out HBA.out HD.out Hlen.out HsA.out.below.size ?_; intro g3 c3' w3 S3 ho3 hb3; have Ho3 := Lib.hid ho3; have Hb3 := Lib.hid hb3; clear ho3 hb3)
          go_wp2
          go_roundw
          case rel => exact ⟨k + 1, S3, by omega, by first | rfl | go_num, by rw [Hnx.out]; exact Ho3.out, Below.trans HsA.out Hb3.out⟩
          case measure => simp [intOf]; omega
    · obtain rfl : k = n.ends.length := by omega
      obtain ⟨A9, m9, c9, rfl⟩ := lawBB.one Ho.out
      clear hk hlt hsr
      go_wp2
      go_ret
      exact ⟨_, _, rfl, lawBB.mono Ho.out Hb0.out.size, Since.after Hb0.out Hs.out⟩
end Go.Proofs.YtfkmkpamdlhbgaaGreat
namespace Go.Proofs.YtfkmkpamdlhbgaaGreat
open Go.RowKit
/-! two colours: the program -/
theorem netOk_ids {n : Net} (h : netOk n = true) : n.ids.length ≤ 40 := by
  have hl := netOk_len h
  unfold netOk at h
  simp only [Bool.and_eq_true] at h
  have h2 := h.1.1.2
  unfold idsB at h2
  rw [Bool.or_eq_true] at h2
  rcases h2 with h2 | h2
  · have : n.ids = [] := List.isEmpty_iff.1 h2
    rw [this]; simp
  · rw [Bool.and_eq_true] at h2
    have : (n.ids.length : Int) = n.ends.length := by simpa using h2.1
    omega
def noClash (n : Net) (k : Nat) : Prop := ((edgesB n).take k).any (clashE n) = false
theorem noClash_zero (n : Net) : noClash n 0 := rfl
theorem noClash_end {n : Net} (h : noClash n (edgesB n).length) : bipB n = true := by
  unfold noClash at h
  rw [List.take_length] at h
  unfold bipB
  rw [h]; rfl
theorem clash_found {n : Net} {k : Nat} {x : Ed} (hx : (edgesB n)[k]? = some x) (h : clashE n x = true) : bipB n = false := by
  unfold bipB
  rw [List.any_eq_true.2 ⟨x, List.mem_of_getElem? hx, h⟩]; rfl
theorem edge_form {n : Net} (hn : netOk n = true) {k : Nat} {x : Ed} (hx : (edgesB n)[k]? = some x) : ∃ (v i y j : Nat), x = ((v : Int), (i : Int), (y : Int), (j : Int)) ∧ v < n.ends.length ∧ y < n.ends.length := by
  obtain ⟨v, i, f, hv, hp, _, rfl⟩ := mem_edges_port.1 (List.mem_of_getElem? hx)
  obtain ⟨p1, p2, p3, p4, p5⟩ := port_in hn hp
  exact ⟨v, i, f.1.toNat, f.2.toNat, by rw [show ((f.1.toNat : Nat) : Int) = f.1 by omega, show ((f.2.toNat : Nat) : Int) = f.2 by omega], hv, by omega⟩
set_option maxRecDepth 100000 in
set_option maxHeartbeats 8000000 in
theorem twoColouring_any (ve vi vn : Value) (n : Net) (w : World) (h : NetIn w ve vi vn n) (hn : netOk n = true) :
    Calls Tryz.prog 49 #[.agg #[ve, vi, vn]] w fun e w' => ∃ u, e = .returned (.tuple #[u, .bool (bipB n)]) ∧ Own w' w.heap.size u (if bipB n = true then twoB n else []) ∧ Below w.heap.size w w' := by
  have hnl := netOk_len hn
  have hnl1 := hnl.1
  have hnl2 := hnl.2
  have Hil : Hid (n.ids.length ≤ 17592186044416) := by show _ ≤ _; have := netOk_ids hn; omega
  have Hn := Lib.hid hn
  obtain ⟨w0, hw0⟩ : ∃ w0, w0 = (w).alloc (.cells #[ve, vi, vn] 27) := ⟨_, rfl⟩
  have hb0 : Below w.heap.size w w0 := by rw [hw0]; exact ((Below.refl _ _).alloc (by simp) _)
  have H := Lib.hid (h.keep hb0)
  obtain ⟨h1, h2, h3⟩ := h.keep hb0
  obtain ⟨A, c, rfl, hlc, hm, hA⟩ := h1
  obtain ⟨A2, c2, rfl, _, hm2, _⟩ := h2
  obtain ⟨A3, c3, rfl, _, hm3, _⟩ := h3
  unfold maxLen at hm hm2 hm3
  have p00 : ∀ W, Since w0 W → W.cell? ⟨w.heap.size, 0, none⟩ = some (.slice A n.ends.length c) := have_cell (by rw [hw0]; simp)
  have p01 : ∀ W, Since w0 W → W.cell? ⟨w.heap.size, 1, none⟩ = some (.slice A2 n.ids.length c2) := have_cell (by rw [hw0]; simp)
  have p02 : ∀ W, Since w0 W → W.cell? ⟨w.heap.size, 2, none⟩ = some (.slice A3 n.inputs.length c3) := have_cell (by rw [hw0]; simp)
  have Hb0 := Lib.hid hb0
  have Hw0 := Lib.hid hw0
  have HA := Lib.hid hA
  clear hA h
  clear hb0 hw0
  have hs0 : Since w0 w0 := since_refl _
  obtain ⟨rb, hrb⟩ : ∃ rb, bipB n = rb := ⟨_, rfl⟩
  have Hrb := Lib.hid hrb
  rw [hrb]
  clear hn hnl hrb
  go_enter Tryz.func49, Tryz.ntmps49
  go_upto_region 1 with (fail)
  rw [← Hw0.out]
  go_wp2_with fail
  refine (isNetwork_any _ _ _ n w0 H.out Hil.out).mono ?_
  rw [Hn.out]
  rintro e w1 ⟨rfl, hb1⟩
  have Hs1 : Hid (Since w0 w1) := hb1
  have hs1 := Hs1.out
  clear hb1 hs0
  go_wp2_with fail
  refine (components_any _ _ _ n w1 (H.out.keep Hs1.out.below) Hn.out).mono ?_
  rintro e w2 ⟨u2, rfl, ho2, hb2⟩
  have hcl : (compB n).length = n.ends.length := by simp [compB]
  obtain ⟨gc, cc, rfl⟩ : ∃ gc cc, u2 = .slice (some ⟨gc, 0, none⟩) n.ends.length cc := by
    rcases ho2.cases with ⟨-, e1⟩ | ⟨gc, cc, rfl, hg1, hg2⟩
    · have := congrArg List.length e1; rw [hcl, List.length_nil] at this; omega
    · exact ⟨gc, cc, by rw [hcl]⟩
  have Ho2 := Lib.hid ho2
  have Hs2 := Lib.hid (Hs1.out.after hb2)
  clear ho2 hb2 hcl hs1
  go_wp2
  go_loopw [4, 15] (fun u i wr => ∃ k : Nat, k ≤ n.ends.length ∧ i = .int .i64 k ∧ Own wr w2.heap.size u ((List.range k).map (twoAt n)) ∧ Since w2 wr) (fun _ i _ => n.ends.length - (intOf i).toNat)
  case atStart => exact ⟨0, Nat.zero_le _, rfl, by simpa using own_nil _ w2.heap.size, since_refl _⟩
  case round =>
    obtain ⟨k, hk, rfl, ho, hsr⟩ := hrel
    have Ho := Lib.hid ho
    have Hs := Lib.hid hsr
    clear ho hsr
    by_cases hlt : k < n.ends.length
    · have m3 : IntKind.i64.wrap ((k : Int) + 1) = (k : Int) + 1 := wr64 _ (by omega) (by omega)
      obtain ⟨p, hp⟩ : ∃ p, p = leastB n k := ⟨_, rfl⟩
      have hpl : p < n.ends.length := by rw [hp]; exact least_lt Hn.out hlt
      have c1 := (Ho2.out.since Hs.out).cell (show (compB n)[k]? = some (p : Int) by rw [hp]; unfold compB; rw [List.getElem?_map, List.getElem?_range hlt]; rfl)
      have Hs02 := Lib.hid (Hs2.out.after Hs.out)
      have hs02 := Hs02.out
      have Hp := Lib.hid hp
      have Hlen : Hid (((List.range k).map (twoAt n)).length + 1 ≤ 17592186044416) := by show _ ≤ _; simp; omega
      have Hn1 := Lib.hid (twoB_snoc n k)
      clear hp
      go_wp2_with fail
      refine (distancesFrom_any _ _ _ n p wr (H.out.keep Hs02.out.below) Hn.out hpl).mono ?_
      obtain ⟨ds, hds⟩ : ∃ ds, ds = distB n p := ⟨_, rfl⟩
      rw [← hds]
      rintro e w3 ⟨u3, rfl, ho3, hb3⟩
      have hdl : ds.length = n.ends.length := by rw [hds]; exact bfs_len Hn.out _ _ _ (BI.start hpl)
      obtain ⟨d, hd⟩ := getx ds k (by omega)
      obtain ⟨gd, cd, rfl⟩ : ∃ gd cd, u3 = .slice (some ⟨gd, 0, none⟩) n.ends.length cd := by
        rcases ho3.cases with ⟨-, e1⟩ | ⟨gd, cd, rfl, hg1, hg2⟩
        · have := congrArg List.length e1; rw [List.length_nil] at this; omega
        · exact ⟨gd, cd, by rw [hdl]⟩
      have cd1 := ho3.cell hd
      obtain ⟨y, hy⟩ : ∃ y, y = twoAt n k := ⟨_, rfl⟩
      have hmod : Int.tmod d 2 = y := by rw [hy]; exact two_mod Hn.out hlt (by rw [← Hp.out, ← hds]; exact hd)
      have hd0 : 0 ≤ d := by have := (dist_own Hn.out hlt).1; rw [← Hp.out, ← hds, getD_of hd] at this; exact this
      have hmod2 : d % 2 = y := by rw [← hmod]; exact (Int.tmod_eq_emod_of_nonneg hd0).symm
      have Hs3 := Lib.hid (Hs.out.after hb3)
      have Ho3 := Lib.hid (Ho.out.since hb3)
      rw [← hy] at Hn1
      clear ho3 hb3 hd hy hds hdl c1 hd0 hs02
      go_wp2_with (at_builtin; refine app_int_s rfl _ _ rfl rfl (Ho3.out.since (since_alloc _ (since_refl _))) w3.heap.size y rfl (by simp [go_sem]) Hlen.out (since_alloc _ Hs3.out) ?_; intro g cx w4 ho4 hs4)
      have Ho4 := Lib.hid ho4
      have Hs4 := Lib.hid hs4
      clear ho4 hs4
      go_wp2
      go_roundw
      case rel => exact ⟨k + 1, by omega, by first | rfl | go_num, by rw [Hn1.out]; have := Ho4.out; simpa using this, Hs4.out⟩
      case measure => simp [intOf]; omega
    · obtain rfl : k = n.ends.length := by omega
      have Hs3 := Lib.hid (Hs2.out.after Hs.out)
      have hs3 := Hs3.out
      obtain ⟨A9, c9, rfl⟩ : ∃ gd cd, u4 = .slice (some ⟨gd, 0, none⟩) n.ends.length cd := by
        rcases Ho.out.cases with ⟨-, e1⟩ | ⟨gd, cd, rfl, hg1, hg2⟩
        · have := congrArg List.length e1; rw [List.length_map, List.length_range, List.length_nil] at this; omega
        · exact ⟨gd, cd, by simp⟩
      have HT : Hid (Own wr w2.heap.size (.slice (some ⟨A9, 0, none⟩) n.ends.length c9) (twoB n)) := Ho.out
      have Hlt := Lib.hid hlt
      clear hk hlt Ho
      go_wp2_with fail
      refine (edges_any _ _ _ n wr (H.out.keep Hs3.out.below) Hn.out).mono ?_
      rintro e w5 ⟨u5, rfl, ho5, hb5⟩
      obtain ⟨A5, c5, rfl, hc5, hl5, hA5⟩ := ho5.read
      unfold maxLen at hc5
      have HA5 := Lib.hid hA5
      have Hs5 : Hid (Since wr w5) := hb5
      have hel := edgesTo_len Hn.out n.ends.length
      have Hel : Hid ((edgesB n).length ≤ 1000000) := by show _ ≤ _; show (edgesTo n n.ends.length).length ≤ _; omega
      have hel2 := Hel.out
      clear ho5 hb5 hA5 hs3 hel
      go_wp2
      go_loopw [34] (fun i wq => ∃ j : Nat, j ≤ (edgesB n).length ∧ i = .int .i64 j ∧ noClash n j ∧ Since w5 wq) (fun i _ => (edgesB n).length - (intOf i).toNat)
      case atStart => exact ⟨0, Nat.zero_le _, rfl, noClash_zero n, since_refl _⟩
      case round =>
        obtain ⟨j, hj, rfl, hnc, hsq⟩ := hrel
        have Hnc := Lib.hid hnc
        have Hsq := Lib.hid hsq
        clear hnc hsq
        by_cases hlj : j < (edgesB n).length
        · obtain ⟨x, hx⟩ := getx (edgesB n) j hlj
          obtain ⟨v, i, y, z, rfl, hv, hy⟩ := edge_form Hn.out hx
          obtain ⟨b, rfl, q0, q1, q2, q3⟩ := HA5.out j _ hx
          have r0 := have_cell q0 wr Hsq.out
          have r1 := have_cell q1 wr Hsq.out
          have r2 := have_cell q2 wr Hsq.out
          have r3 := have_cell q3 wr Hsq.out
          have HTq := Lib.hid (HT.out.since (Hs5.out.after Hsq.out))
          have t1 := have_cell (HTq.out.cell (twoB_get hv))
          have t2 := have_cell (HTq.out.cell (twoB_get hy))
          have m2 : IntKind.i64.wrap ((j : Int) + 1) = (j : Int) + 1 := wr64 _ (by omega) (by omega)
          obtain ⟨w8, hw8⟩ : ∃ w8, w8 = wr.alloc (.cells #[.int .i64 v, .int .i64 i, .int .i64 y, .int .i64 z] 110) := ⟨_, rfl⟩
          obtain ⟨be, hbe⟩ : ∃ be, be = wr.heap.size := ⟨_, rfl⟩
          have d0 : ∀ W, Since w8 W → W.cell? ⟨be, 0, none⟩ = some (.int .i64 v) := have_cell (by rw [hw8, hbe]; simp)
          have d2 : ∀ W, Since w8 W → W.cell? ⟨be, 2, none⟩ = some (.int .i64 y) := have_cell (by rw [hw8, hbe]; simp)
          have hs8 : Since wr w8 := by rw [hw8]; exact since_alloc _ (since_refl _)
          have t1 := lift_cell t1 hs8
          have t2 := lift_cell t2 hs8
          have Hs8 := Lib.hid hs8
          have Hw8 := Lib.hid hw8
          have Hbe := Lib.hid hbe
          have Hx := Lib.hid hx
          obtain ⟨a1, ha1⟩ : ∃ a, twoAt n v = a := ⟨_, rfl⟩
          obtain ⟨a2, ha2⟩ : ∃ a, twoAt n y = a := ⟨_, rfl⟩
          have Hcl : Hid (clashE n ((v : Int), (i : Int), (y : Int), (z : Int)) = (a1 == a2)) := by
            show _ = _
            unfold clashE
            simp only [Int.toNat_natCast]
            rw [two_getD hv, two_getD hy, ha1, ha2]
          rw [ha1] at t1
          rw [ha2] at t2
          clear hx q0 q1 q2 q3 hw8 hbe hs8 ha1 ha2
          go_upto_region 12 with (fail)
          rw [← Hw8.out, ← Hbe.out]
          clear r0 r1 r2 r3
          refine wp_region_flow 11 (Since w8) (by kernel_rfl) (by kernel_rfl) (by simp) (since_drew (since_refl _)) ?_
          simp only [List.take_succ_cons, List.take_zero, List.drop_succ_cons, List.drop_zero]
          refine flow_val (v := ?_) rfl ?_ ?_; rotate_left; (intro W hW; go_simp; with_reducible rfl)
          simp only [Act.put, List.setIfInBounds_toArray, List.set_cons_succ, List.set_cons_zero]
          refine flow_val (v := ?_) rfl ?_ ?_; rotate_left; (intro W hW; go_simp; with_reducible rfl)
          simp only [Act.put, List.setIfInBounds_toArray, List.set_cons_succ, List.set_cons_zero]
          refine flow_val (v := ?_) rfl ?_ ?_; rotate_left; (intro W hW; go_simp; with_reducible rfl)
          simp only [Act.put, List.setIfInBounds_toArray, List.set_cons_succ, List.set_cons_zero]
          refine flow_val (v := ?_) rfl ?_ ?_; rotate_left; (intro W hW; go_simp; with_reducible rfl)
          simp only [Act.put, List.setIfInBounds_toArray, List.set_cons_succ, List.set_cons_zero]
          refine flow_val (v := ?_) rfl ?_ ?_; rotate_left; (intro W hW; go_simp; with_reducible rfl)
          simp only [Act.put, List.setIfInBounds_toArray, List.set_cons_succ, List.set_cons_zero]
          refine flow_val (v := ?_) rfl ?_ ?_; rotate_left; (intro W hW; go_simp; with_reducible rfl)
          simp only [Act.put, List.setIfInBounds_toArray, List.set_cons_succ, List.set_cons_zero]
          refine flow_val (v := ?_) rfl ?_ ?_; rotate_left; (intro W hW; go_simp; with_reducible rfl)
          simp only [Act.put, List.setIfInBounds_toArray, List.set_cons_succ, List.set_cons_zero]
          refine flow_val (v := ?_) rfl ?_ ?_; rotate_left; (intro W hW; go_simp; with_reducible rfl)
          simp only [Act.put, List.setIfInBounds_toArray, List.set_cons_succ, List.set_cons_zero]
          refine flow_val (v := ?_) rfl ?_ ?_; rotate_left; (intro W hW; go_simp; with_reducible rfl)
          simp only [Act.put, List.setIfInBounds_toArray, List.set_cons_succ, List.set_cons_zero]
          refine flow_val (v := ?_) rfl ?_ ?_; rotate_left; (intro W hW; go_simp; with_reducible rfl)
          simp only [Act.put, List.setIfInBounds_toArray, List.set_cons_succ, List.set_cons_zero]
          refine flow_val (v := ?_) rfl ?_ ?_; rotate_left; (intro W hW; go_simp; with_reducible rfl)
          simp only [Act.put, List.setIfInBounds_toArray, List.set_cons_succ, List.set_cons_zero]
          intro W hW
          have HW := Lib.hid (Hsq.out.after (Hs8.out.after hW))
          clear hW d0 d2 t1 t2
          cases hg : (a1 == a2)
          · have Hno : Hid (noClash n (j + 1)) := by
              show _ = _
              rw [take_snoc Hx.out, List.any_append, show ((edgesB n).take j).any (clashE n) = false from Hnc.out]
              simp only [List.any_cons, List.any_nil, Hcl.out, hg, Bool.or_false]
            go_wp2
            go_roundw
            case rel => exact ⟨j + 1, by omega, by first | rfl | go_num, Hno.out, HW.out⟩
            case measure => simp [intOf]; omega
          · have hbf := clash_found Hx.out (by rw [Hcl.out]; exact hg)
            rw [Hrb.out] at hbf
            subst hbf
            go_wp2
            go_ret2
            exact ⟨.slice none 0 0, rfl, by simpa using own_nil _ _, Since.after Hb0.out (Hs3.out.after (Hs5.out.after HW.out))⟩
        · obtain rfl : j = (edgesB n).length := by omega
          have hbt := noClash_end Hnc.out
          rw [Hrb.out] at hbt
          subst hbt
          go_wp2
          go_ret2
          refine ⟨.slice (some ⟨A9, 0, none⟩) n.ends.length c9, rfl, ?_, Since.after Hb0.out (Hs3.out.after (Hs5.out.after Hsq.out))⟩
          exact (HT.out.since (Hs5.out.after Hsq.out)).mono (Nat.le_trans Hb0.out.size Hs2.out.below.size)
end Go.Proofs.YtfkmkpamdlhbgaaGreat
namespace Go.Proofs.YtfkmkpamdlhbgaaGreat
open Go Go.RowKit
/-! as wp_region_chain0, for any worlds S that the reads bear -/
section
variable {P : Program} {ops : Array Oper}
/-- reads, in the order of the text -/
def PFlowS (P : Program) (ops : Array Oper) (S : World → Prop) (fin : Act → Prop) : List Oper → Act → Prop
  | [], A => fin A
  | o :: rest, A => ∃ v, (Region.wanted o (yielded ops A.tmps) = true ∧ ∀ W, S W → (execOp A.eval o).run P W = .ok (.value v) W) ∧ PFlowS P ops S fin rest (A.put o.dst v)
theorem pflowS_val {S : World → Prop} {fin : Act → Prop} {o : Oper} {rest : List Oper} {A : Act} {v : Value} (hw : Region.wanted o (yielded ops A.tmps) = true) (h : ∀ W, S W → (execOp A.eval o).run P W = .ok (.value v) W)
    (hr : PFlowS P ops S fin rest (A.put o.dst v)) : PFlowS P ops S fin (o :: rest) A := ⟨v, ⟨hw, h⟩, hr⟩
theorem pflowS_frames {S : World → Prop} {fin : Act → Prop} (l : List Oper) : ∀ (A : Act), PFlowS P ops S fin l A →
    ∃ (vals : Nat → Value) (F : Nat → Act), F 0 = A ∧ fin (F l.length) ∧ ∀ i o, l[i]? = some o → (Region.wanted o (yielded ops (F i).tmps) = true ∧ ∀ W, S W → (execOp (F i).eval o).run P W = .ok (.value (vals i)) W) ∧ F (i + 1) = (F i).put o.dst (vals i) := by
  induction l with
  | nil => intro A h; exact ⟨fun _ => undef, fun _ => A, rfl, h, fun i o h => by simp at h⟩
  | cons o l ih =>
    intro A h
    obtain ⟨v, hs, hf⟩ := h
    obtain ⟨vals, F, h0, hfin, hstep⟩ := ih _ hf
    refine ⟨fun i => match i with | 0 => v | i + 1 => vals i, fun i => match i with | 0 => A | i + 1 => F i, rfl, hfin, ?_⟩
    intro i o' hi
    cases i with
    | zero => simp at hi; subst hi; exact ⟨hs, h0⟩
    | succ i => exact hstep i o' (by simpa using hi)
theorem wp_region_chainS {Q : Exit → Act → World → Prop} {rid : Nat} {a : Act} {w : World} (S : World → Prop) (k : Nat) (mask : List Bool) (hm : P.follows .mixedOrders = true) (hc : chainB ops k mask = true) (hs0 : S w.drew)
    (h : PFlowS P ops S (fun A => TFlow P ops S (fun A W => wpList P ops Q (ops.toList.drop k) A W) (selT mask (ops.toList.take k)) A w.drew) (selF mask (ops.toList.take k)) a) : (Code.region rid ops true).wp P Q a w := by
  unfold chainB at hc
  simp only [Bool.and_eq_true, decide_eq_true_eq] at hc
  obtain ⟨⟨⟨hf, hml⟩, hkn⟩, hch⟩ := hc
  have hok := flow_ok hf
  have hlt : mask.length = (ops.toList.take k).length := by simp; omega
  have hmk : ∀ i, i < k → ∃ b, mask[i]? = some b := fun i hi => ⟨_, List.getElem?_eq_getElem (by omega)⟩
  have hget : ∀ i o, i < k → ops[i]? = some o → (ops.toList.take k)[i]? = some o := fun i o hi ho => by
    rw [List.getElem?_take, if_pos hi]; simpa using ho
  have hmd : ∀ i b, mask[i]? = some b → mask.getD i true = b := fun i b hb => by rw [List.getD_eq_getElem?_getD, hb]; rfl
  have hml' : ∀ i b, mask[i]? = some b → i < k := fun i b hb => by have := (List.getElem?_eq_some_iff.1 hb).1; omega
  have chT : ∀ i j, mask[i]? = some true → mask[j]? = some true → j < i → Anc ops j i := fun i j hi hj hji => by
    have hik := hml' i _ hi
    have ho : ops[i]? = some ops[i] := Array.getElem?_eq_getElem (by omega)
    have := List.all_eq_true.1 hch i (List.mem_range.2 hik)
    simp only [ho] at this
    rw [if_pos (hmd i _ hi)] at this
    have := List.all_eq_true.1 this j (List.mem_range.2 hji)
    rw [hmd j _ hj, Bool.not_true, Bool.false_or] at this
    exact closTbl_sound (i + 1) i j (by simpa using this)
  have chF : ∀ i o j, mask[i]? = some false → ops[i]? = some o → j ∈ depsOf o → mask[j]? = some false := fun i o j hi ho hj => by
    have hik := hml' i _ hi
    have hji := hok.back i o ho j hj
    have := List.all_eq_true.1 hch i (List.mem_range.2 hik)
    simp only [ho] at this
    rw [if_neg (by rw [hmd i _ hi]; simp)] at this
    have := List.all_eq_true.1 this j hj
    obtain ⟨b, hb⟩ := hmk j (by omega)
    rw [hmd j _ hb] at this
    cases b <;> simp_all
  obtain ⟨vals, F, h0, hfin, hst⟩ := pflowS_frames _ a h
  -- the frames of the reads
  have hpure : ∀ r, r ≤ mask.count false → FrameIs a ops (fun j => vals (rk false mask j)) (fun j => mask[j]? = some false ∧ rk false mask j < r) (F r) := by
    intro r
    induction r with
    | zero => intro _; rw [h0]; exact ⟨rfl, rfl, fun j _ _ hj => by have := hj.2; omega, fun _ _ => rfl⟩
    | succ r ih =>
      intro hr
      obtain ⟨i, hi1, hi2⟩ := rk_has (b := false) mask r (by omega)
      have hik := hml' i _ hi1
      have ho : ops[i]? = some ops[i] := Array.getElem?_eq_getElem (by omega)
      have hsel := selF_rk mask _ i hlt hi1
      rw [hget i _ hik ho, hi2] at hsel
      rw [(hst r _ hsel).2]
      have := ((ih (by omega)).put ho (fun j oj d hj hoj hd hd2 => by
        have := hok.dsts i _ hik ho j oj (hml' j _ hj.1) hoj d hd hd2
        subst this
        have := hj.2
        omega)).same (E := fun j => mask[j]? = some false ∧ rk false mask j < r + 1) (fun j => by
          constructor
          · rintro (⟨a1, a2⟩ | rfl)
            · exact ⟨a1, by omega⟩
            · exact ⟨hi1, by omega⟩
          · rintro ⟨a1, a2⟩
            by_cases e : rk false mask j = r
            · exact .inr (rk_inj a1 hi1 (by omega))
            · exact .inl ⟨a1, by omega⟩)
      rw [show vals r = vals (rk false mask i) by rw [hi2]]
      exact this
  have hnF : (selF mask (ops.toList.take k)).length = mask.count false := selF_len _ _ hlt
  rw [hnF] at hfin
  let SP : Nat → Prop := fun j => mask[j]? = some false
  let J : (Nat → Prop) → Act → World → Prop := fun D a' W =>
    (S W ∧ (∀ j, D j → j < k) ∧ ∃ (V : Nat → Value) (q : Nat) (A : Act), (∀ j, mask[j]? = some false → V j = vals (rk false mask j)) ∧ (∀ j, mask[j]? = some true → (D j ↔ rk true mask j < q)) ∧
      FrameIs a ops V D a' ∧ FrameIs a ops V (fun j => mask[j]? = some false ∨ (mask[j]? = some true ∧ rk true mask j < q)) A ∧
      TFlow P ops S (fun A W => wpList P ops Q (ops.toList.drop k) A W) ((selT mask (ops.toList.take k)).drop q) A W) ∨
    (∃ m, k ≤ m ∧ m ≤ ops.size ∧ (∀ j, j < ops.size → (D j ↔ j < m)) ∧ wpList P ops Q (ops.toList.drop m) a' W)
  have htl : (selT mask (ops.toList.take k)).length = mask.count true := selT_len _ _ hlt
  -- the first k are done
  have full : ∀ D a' W, J D a' W → (∀ j, j < k → D j) → ∃ m, k ≤ m ∧ m ≤ ops.size ∧ (∀ j, j < ops.size → (D j ↔ j < m)) ∧ wpList P ops Q (ops.toList.drop m) a' W := by
    intro D a' W hJ hD
    rcases hJ with ⟨hW, hDk, V, q, A, hV, hT, hfr, hfA, htf⟩ | hJ
    · have hq : mask.count true ≤ q := by
        by_cases e : mask.count true ≤ q
        · exact e
        · obtain ⟨i, hi1, hi2⟩ := rk_has (b := true) mask q (by omega)
          have := (hT i hi1).1 (hD i (hml' i _ hi1))
          omega
      have enil : (selT mask (ops.toList.take k)).drop q = [] := List.drop_eq_nil_of_le (by omega)
      rw [enil] at htf
      have : a' = A := hfr.ext hfA (fun j hj => by
        constructor
        · intro hj'
          obtain ⟨b, hb⟩ := hmk j (hDk j hj')
          cases b
          · exact .inl hb
          · exact .inr ⟨hb, (hT j hb).1 hj'⟩
        · rintro (hb | ⟨hb, _⟩) <;> exact hD j (hml' j _ hb))
      subst this
      exact ⟨k, Nat.le_refl _, hkn, fun j _ => ⟨fun h => hDk j h, fun h => hD j h⟩, htf⟩
    · exact hJ
  refine wp_region_inv2 hm hok.back J (.inl ⟨hs0, fun j hj => hj.elim, fun j => vals (rk false mask j), 0, F (mask.count false), fun j _ => rfl, fun j _ => ⟨fun h => h.elim, fun h => by omega⟩, ⟨rfl, rfl, fun j _ _ hj => hj.elim, fun _ _ => rfl⟩, ?_, ?_⟩) ?_ ?_
  · exact (hpure _ (Nat.le_refl _)).same (fun j => by
      constructor
      · rintro ⟨a1, -⟩; exact .inl a1
      · rintro (a1 | ⟨-, a2⟩)
        · exact ⟨a1, rk_lt_count a1⟩
        · omega)
  · rw [List.drop_zero]; exact hfin
  · intro D a' W i o hJ ho hDi hdep hcl
    have hin : i < ops.size := (Array.getElem?_eq_some_iff.1 ho).1
    by_cases hik : i < k
    · -- one of the first k
      rcases hJ with ⟨hW, hDk, V, q, A, hV, hT, hfr, hfA, htf⟩ | ⟨m, h1, h2, h3, -⟩
      rotate_left
      · exact absurd ((h3 i hin).2 (by omega)) hDi
      have look : ∀ t ∈ o.looksAt ops, ∀ j oj, j < k → ops[j]? = some oj → oj.dst = some t → D j ∧ j ∈ depsOf o := fun t ht j oj hjk hoj hd => by
        have := hok.looks i o hik ho t ht j oj hjk hoj hd
        exact ⟨hdep j this, this⟩
      have dist : ∀ j oj d, D j → ops[j]? = some oj → o.dst = some d → oj.dst ≠ some d := fun j oj d hj hoj hd hd2 => by
        have := hok.dsts i o hik ho j oj (hDk j hj) hoj d hd hd2
        subst this
        exact hDi hj
      obtain ⟨b, hb⟩ := hmk i hik
      cases b with
      | false =>
        have hsel := selF_rk mask _ i hlt hb
        rw [hget i _ hik ho] at hsel
        obtain ⟨⟨hw, hrun⟩, -⟩ := hst _ _ hsel
        have hr := rk_lt_count hb
        obtain ⟨he, hw'⟩ := agree_exec (ops := ops) (a' := a') (A := F (rk false mask i)) (fun t ht => (hfr.vals2 (v' := V) (fun _ _ _ => rfl)).agree ((hpure _ (Nat.le_of_lt hr)).vals (v' := V) (fun j hj => (hV j hj.1).symm)) t (fun j oj hj hoj hd => by
          have hjk : j < k := hj.elim (fun h => hDk j h) (fun h => hml' j _ h.1)
          obtain ⟨d1, d2⟩ := look t ht j oj hjk hoj hd
          have hjf := chF i o j hb ho d2
          exact ⟨d1, hjf, rk_lt (hok.back i o ho j d2) hjf⟩)) (fun cs b => hok.nosel i o cs b ho)
        rw [if_pos (hw'.trans hw)]
        refine .inl ?_
        unfold Oper.wp
        rw [he, hrun W hW]
        refine .inl ⟨hW, fun j hj => hj.elim (fun h => hDk j h) (fun h => by omega), V, q, A, hV, fun j hj => ?_, ?_, hfA, htf⟩
        · rw [← hT j hj]
          constructor
          · rintro (h | rfl)
            · exact h
            · rw [hb] at hj; cases hj
          · exact .inl
        · have := hfr.put (i := i) ho dist
          rwa [hV i hb] at this
      | true =>
        have hq : rk true mask i = q := by
          have h1 : ¬ rk true mask i < q := fun h => hDi ((hT i hb).2 h)
          by_cases e : rk true mask i = q
          · exact e
          · obtain ⟨j, hj1, hj2⟩ := rk_has (b := true) mask q (by have := rk_lt_count hb; omega)
            have hji : j < i := by
              rcases Nat.lt_trichotomy j i with h | h | h
              · exact h
              · subst h; omega
              · have := rk_lt h hb; omega
            have := anc_ready hcl ho hdep (chT i j hb hj1 hji)
            have := (hT j hj1).1 this
            omega
        have hsel := selT_rk mask _ i hlt hb
        rw [hget i _ hik ho, hq] at hsel
        have hqn : q < (selT mask (ops.toList.take k)).length := (List.getElem?_eq_some_iff.1 hsel).1
        rw [List.drop_eq_getElem_cons hqn, (List.getElem?_eq_some_iff.1 hsel).2] at htf
        obtain ⟨he, hw'⟩ := agree_exec (ops := ops) (a' := a') (A := A) (fun t ht => hfr.agree hfA t (fun j oj hj hoj hd => by
          have hjk : j < k := hj.elim (fun h => hDk j h) (fun h => h.elim (hml' j _) (fun h => hml' j _ h.1))
          obtain ⟨d1, d2⟩ := look t ht j oj hjk hoj hd
          refine ⟨d1, ?_⟩
          obtain ⟨b, hb'⟩ := hmk j hjk
          cases b
          · exact .inl hb'
          · exact .inr ⟨hb', (hT j hb').1 d1⟩)) (fun cs b => hok.nosel i o cs b ho)
        have next : ∀ u W', S W' → TFlow P ops S (fun A W => wpList P ops Q (ops.toList.drop k) A W) ((selT mask (ops.toList.take k)).drop (q + 1)) (A.put o.dst u) W' → J (fun j => D j ∨ j = i) (a'.put o.dst u) W' := by
          intro u W' hS ht
          let V' : Nat → Value := fun j => if j = i then u else V j
          have e1 : ∀ j, j ≠ i → V' j = V j := fun j hj => if_neg hj
          have e2 : V' i = u := if_pos rfl
          refine .inl ⟨hS, fun j hj => hj.elim (fun h => hDk j h) (fun h => by omega), V', q + 1, A.put o.dst u, fun j hj => ?_, fun j hj => ?_, ?_, ?_, ht⟩
          · rw [e1 j (fun e => by subst e; rw [hb] at hj; cases hj)]; exact hV j hj
          · constructor
            · rintro (h | rfl)
              · have := (hT j hj).1 h; omega
              · omega
            · intro h
              by_cases e : rk true mask j = q
              · exact .inr (rk_inj hj hb (by omega))
              · exact .inl ((hT j hj).2 (by omega))
          · have := (hfr.vals2 (v' := V') (fun j _ hj => (e1 j (fun e => by subst e; exact hDi hj)).symm)).put (i := i) ho dist
            rwa [e2] at this
          · have := ((hfA.vals2 (v' := V') (fun j _ hj => (e1 j (fun e => by
              subst e
              rcases hj with hj | ⟨-, hj⟩
              · rw [hb] at hj; cases hj
              · omega)).symm)).put (i := i) ho (fun j oj d hj hoj hd hd2 => by
                have hjk : j < k := hj.elim (hml' j _) (fun h => hml' j _ h.1)
                have := hok.dsts i o hik ho j oj hjk hoj d hd hd2
                subst this
                rcases hj with hj | ⟨-, hj⟩
                · rw [hb] at hj; cases hj
                · omega)).same (E := fun j => mask[j]? = some false ∨ (mask[j]? = some true ∧ rk true mask j < q + 1)) (fun j => by
                constructor
                · rintro ((h | ⟨h, h'⟩) | rfl)
                  · exact .inl h
                  · exact .inr ⟨h, by omega⟩
                  · exact .inr ⟨hb, by omega⟩
                · rintro (h | ⟨h, h'⟩)
                  · exact .inl (.inl h)
                  · by_cases e : rk true mask j = q
                    · exact .inr (rk_inj h hb (by omega))
                    · exact .inl (.inr ⟨h, by omega⟩))
            rwa [e2] at this
        rcases htf with ⟨hw, hrun⟩ | ⟨hw, hrun⟩
        · rw [if_pos (hw'.trans hw)]
          refine .inl ?_
          unfold Oper.wp
          rw [he]
          generalize (execOp A.eval o).run P W = r at hrun ⊢
          cases r with
          | ok nx W' =>
            cases nx with
            | value u => exact next u W' hrun.1 hrun.2
            | skip => exact next undef W' hrun.1 hrun.2
            | row row args => exact Rows.mono hrun fun u W'' h => next u W'' h.1 h.2
            | enter f args =>
              simp only [Oper.upon]
              exact Calls.mono hrun fun e W'' ⟨u, he', h3, h4⟩ => by subst he'; exact next u W'' h3 h4
            | _ => exact hrun.elim
          | halt x W' => exact hrun.elim
        · rw [if_neg (by rw [hw'.trans hw]; simp)]
          exact next _ _ hW hrun
    · -- the tail
      have hall : ∀ j, j < i → D j := fun j hj => anc_ready hcl ho hdep (hok.tail i (by omega) hin j hj)
      obtain ⟨m, h1, h2, h3, h4⟩ := full D a' W hJ (fun j hj => hall j (by omega))
      have hmi : m = i := by
        by_cases e1 : i < m
        · exact absurd ((h3 i hin).2 e1) hDi
        · by_cases e2 : m < i
          · have := (h3 m (by omega)).1 (hall m e2); omega
          · omega
      subst hmi
      have hdr : ops.toList.drop m = o :: ops.toList.drop (m + 1) := by
        have : m < ops.toList.length := by simpa using hin
        rw [List.drop_eq_getElem_cons this]
        congr 1
        have := (Array.getElem?_eq_some_iff.1 ho).2
        simpa using this
      rw [hdr] at h4
      unfold wpList at h4
      have next : ∀ a W, wpList P ops Q (ops.toList.drop (m + 1)) a W → J (fun j => D j ∨ j = m) a W := fun a W h => .inr ⟨m + 1, by omega, by omega, fun j hj => by
        constructor
        · rintro (h | rfl)
          · have := (h3 j hj).1 h; omega
          · omega
        · intro h
          by_cases e : j = m
          · exact .inr e
          · exact .inl ((h3 j hj).2 (by omega)), h⟩
      split
      · rename_i hw
        rw [if_pos hw] at h4
        exact h4.imp (Oper.wp_mono next) id
      · rename_i hw
        rw [if_neg hw] at h4
        exact next _ _ h4
  · intro D a' W hJ hall
    obtain ⟨m, h1, h2, h3, h4⟩ := full D a' W hJ (fun j hj => hall j (by omega))
    have hmn : m = ops.size := by
      by_cases e : m < ops.size
      · have := (h3 m e).1 (hall m e); omega
      · omega
    subst hmn
    rw [List.drop_eq_nil_of_le (by simp)] at h4
    exact h4

theorem tflow_allocS {S : World → Prop} {fin : Act → World → Prop} {o : Oper} {rest : List Oper} {A : Act} {W : World} {ob : Obj} {v : Value} (hw : Region.wanted o (yielded ops A.tmps) = true) (h : (execOp A.eval o).run P W = .ok (.value v) (W.alloc ob)) (hS : S (W.alloc ob))
    (hr : ∀ W', W' = W.alloc ob → S W' → TFlow P ops S fin rest (A.put o.dst v) W') : TFlow P ops S fin (o :: rest) A W :=
  tflow_new hw h hS (hr _ rfl hS)
end
end Go.Proofs.YtfkmkpamdlhbgaaGreat
