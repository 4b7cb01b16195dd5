/- Parts of the proof: walks of functions and plain laws. -/
import Derived.Test.YtomnaabadohecaaP0
import Derived.Shelf.Small.Bits
import Derived.Shelf.Small.Wraps
import Derived.Shelf.Strconv.Itoa0
import Derived.Shelf.Sort.Plain
import Derived.Shelf.Bits.Mul64
import Derived.Ground.Names2Prog
import Derived.Shelf.Slices.Clone
import Derived.Shelf.Slices.SearchI
import Derived.Shelf.Slices.In.SortNone
import Derived.Test.YtomnaabadohecaaProg
namespace Go.Proofs.Ytomnaabadohecaa
open Go.RowKit
def encE (e : Int × Int) : List Value := [.int .i64 e.1, .int .i64 e.2]
/-- a row of ends -/
def OwnE : World → Nat → Value → List (Int × Int) → List Nat → Prop := LeafR 56 2 encE
theorem lawE : RowLaw OwnE := leaf_law _ _ _
/-- a row of rows of ends -/
def OwnEE : World → Nat → Value → List (List (Int × Int)) → List Nat → Prop := OwnRows 54 OwnE
theorem lawEE : RowLaw OwnEE := rows_law _ lawE
/-- integers, with their block -/
def OwnI (w : World) (base : Nat) (v : Value) (xs : List Int) (S : List Nat) : Prop := Own w base v xs ∧ S = v.ownBlock.toList
theorem lawI : RowLaw OwnI where
  stable := fun ⟨h, hS⟩ hs => ⟨ownsRow_stable h (fun k hk => hs k (by rw [hS]; exact hk)), hS⟩
  range := fun ⟨h, hS⟩ k hk => World.ownsRow.lt h k (by rw [hS] at hk; simpa using hk)
  nodup := fun {_ _ v _ _} ⟨_, hS⟩ => by rw [hS]; cases v.ownBlock <;> simp
  mono := fun ⟨h, hS⟩ hb => ⟨ownsRow_mono h hb, hS⟩
  one := fun ⟨h, _⟩ => ownsRow_one h
theorem encE_get {es : List (Int × Int)} {k : Nat} {x : Int × Int} (h : es[k]? = some x) : (es.flatMap encE)[k * 2]? = some (.int .i64 x.1) ∧ (es.flatMap encE)[k * 2 + 1]? = some (.int .i64 x.2) := by
  induction es generalizing k with
  | nil => simp at h
  | cons e es ih =>
    cases k with
    | zero => simp at h; subst h; simp [encE]
    | succ k =>
      have := ih (k := k) (by simpa using h)
      rw [List.flatMap_cons, show (k + 1) * 2 = k * 2 + 2 by omega]
      simp only [encE, List.cons_append, List.nil_append]
      exact ⟨by simpa using this.1, by rw [show k * 2 + 2 + 1 = (k * 2 + 1) + 1 + 1 by omega]; simpa using this.2⟩
theorem encE_set {es : List (Int × Int)} {k : Nat} (x : Int × Int) (h : k < es.length) : ((es.flatMap encE).set (k * 2) (.int .i64 x.1)).set (k * 2 + 1) (.int .i64 x.2) = (es.set k x).flatMap encE := by
  induction es generalizing k with
  | nil => simp at h
  | cons e es ih =>
    cases k with
    | zero => simp [encE]
    | succ k =>
      have := ih (k := k) (by simpa using h)
      rw [List.flatMap_cons, show (k + 1) * 2 = k * 2 + 1 + 1 by omega]
      simp only [encE, List.cons_append, List.nil_append, List.set_cons_succ, List.flatMap_cons] at this ⊢
      rw [this]
theorem encE_len (es : List (Int × Int)) : (es.flatMap encE).length = es.length * 2 := by
  induction es with
  | nil => rfl
  | cons e es ih => rw [List.flatMap_cons, List.length_append, ih, List.length_cons]; simp [encE]; omega
theorem OwnE.read {w : World} {base : Nat} {v : Value} {es : List (Int × Int)} {S : List Nat} (h : OwnE w base v es S) : EndS w v es := by
  obtain ⟨h, hS⟩ := h
  rcases ownsRow_cases h with ⟨rfl, h0⟩ | ⟨g, c, rfl, hb, hg, hc, hm⟩
  · obtain rfl : es = [] := List.eq_nil_of_length_eq_zero h0
    exact ⟨none, 0, rfl, Nat.le_refl _, Nat.zero_le _, fun k x hk => by simp at hk⟩
  · refine ⟨_, c, rfl, hc, hm, fun k x hk => ⟨g, 0, rfl, ?_, ?_⟩⟩
    · have := lt_of_get hk
      rw [Nat.zero_add, h.cellAt (cap := c) _ (by omega)]; exact (encE_get hk).1
    · have := lt_of_get hk
      rw [Nat.zero_add, h.cellAt (cap := c) _ (by omega)]; exact (encE_get hk).2
theorem OwnEE.read {w : World} {base : Nat} {v : Value} {ess : List (List (Int × Int))} {S : List Nat} (h : OwnEE w base v ess S) : EndSS w v ess := by
  obtain ⟨vs, Ss, h1, h2, h3, h4, h5⟩ := h
  rcases ownsRow_cases h1 with ⟨rfl, h0⟩ | ⟨g, c, rfl, hb, hg, hc, hm⟩
  · obtain rfl : ess = [] := List.eq_nil_of_length_eq_zero h0
    exact ⟨none, 0, rfl, Nat.le_refl _, Nat.zero_le _, fun k x hk => by simp at hk⟩
  · have hvl : vs.length = ess.length := by simpa using h1.1
    refine ⟨_, c, rfl, hc, hm, fun k x hk => ?_⟩
    have hlt := lt_of_get hk
    obtain ⟨u, hu⟩ := getx vs k (by omega)
    obtain ⟨T, hT⟩ := getx Ss k (by omega)
    exact ⟨g, 0, u, rfl, by rw [Nat.zero_add, h1.cellAt (cap := c) _ (by omega)]; exact hu, OwnE.read (h3 k u x T hu hk hT)⟩
/-- the marks of a row of ends -/
def mkE (k m : Nat) : List (Int × Int) := (List.range m).map fun i => (((k + 2 * i : Nat) : Int), ((k + 2 * i + 1 : Nat) : Int))
theorem mkE_len (k m : Nat) : (mkE k m).length = m := by simp [mkE]
theorem mkE_get {k m j : Nat} (h : j < m) : (mkE k m)[j]? = some (((k + 2 * j : Nat) : Int), ((k + 2 * j + 1 : Nat) : Int)) := by simp [mkE, h]
theorem mkE_set (es : List (Int × Int)) (k j : Nat) (h : j < es.length) : (mkE k j ++ es.drop j).set j (((k + 2 * j : Nat) : Int), ((k + 2 * j + 1 : Nat) : Int)) = mkE k (j + 1) ++ es.drop (j + 1) := by
  have hl := mkE_len k j
  rw [List.set_append_right _ _ (by omega), hl, Nat.sub_self, List.drop_eq_getElem_cons h, List.set_cons_zero]
  rw [show mkE k (j + 1) = mkE k j ++ [(((k + 2 * j : Nat) : Int), ((k + 2 * j + 1 : Nat) : Int))] by simp [mkE, List.range_succ], List.append_assoc]
  rfl
/-- the marks of rows of ends -/
def mkEE : Nat → List (List (Int × Int)) → List (List (Int × Int))
  | _, [] => []
  | k, es :: r => mkE k es.length :: mkEE (k + 2 * es.length) r
def cntEE : List (List (Int × Int)) → Nat
  | [] => 0
  | es :: r => 2 * es.length + cntEE r
theorem mkEE_append (k : Nat) (a b : List (List (Int × Int))) : mkEE k (a ++ b) = mkEE k a ++ mkEE (k + cntEE a) b := by
  induction a generalizing k with
  | nil => simp [mkEE, cntEE]
  | cons x a ih => simp [mkEE, cntEE, ih, Nat.add_assoc]
theorem cntEE_append (a b : List (List (Int × Int))) : cntEE (a ++ b) = cntEE a + cntEE b := by
  induction a with
  | nil => simp [cntEE]
  | cons x a ih => simp [cntEE, ih]; omega
theorem mkEE_len (k : Nat) (a : List (List (Int × Int))) : (mkEE k a).length = a.length := by
  induction a generalizing k with
  | nil => rfl
  | cons x a ih => simp [mkEE, ih]
theorem cntEE_take (a : List (List (Int × Int))) (k : Nat) : cntEE (a.take k) ≤ cntEE a := by
  rw [show cntEE a = cntEE (a.take k ++ a.drop k) by rw [List.take_append_drop], cntEE_append]; omega
end Go.Proofs.Ytomnaabadohecaa
namespace Go.Proofs.Ytomnaabadohecaa
open Go.RowKit
theorem OwnE.cells {w : World} {base g c n : Nat} {es : List (Int × Int)} {S : List Nat} (h : OwnE w base (.slice (some ⟨g, 0, none⟩) n c) es S) {k : Nat} {x : Int × Int} (hx : es[k]? = some x) :
    w.cell? ⟨g, k * 2, none⟩ = some (.int .i64 x.1) ∧ w.cell? ⟨g, k * 2 + 1, none⟩ = some (.int .i64 x.2) ∧ w.frozen? ⟨g, k * 2, none⟩ = false ∧ w.frozen? ⟨g, k * 2 + 1, none⟩ = false := by
  obtain ⟨h, _⟩ := h
  have hn := ownsRow_len h
  subst hn
  have := lt_of_get hx
  exact ⟨by rw [h.cellAt (cap := c) _ (by omega)]; exact (encE_get hx).1, by rw [h.cellAt (cap := c) _ (by omega)]; exact (encE_get hx).2, h.frozenAt _, h.frozenAt _⟩
theorem OwnE.set {w : World} {base g c n : Nat} {es : List (Int × Int)} {S : List Nat} (h : OwnE w base (.slice (some ⟨g, 0, none⟩) n c) es S) {k : Nat} (hk : k < es.length) (x : Int × Int) :
    OwnE ((w.setCell ⟨g, k * 2, none⟩ (.int .i64 x.1)).setCell ⟨g, k * 2 + 1, none⟩ (.int .i64 x.2)) base (.slice (some ⟨g, 0, none⟩) n c) (es.set k x) S := by
  obtain ⟨h, hS⟩ := h
  have hn := ownsRow_len h
  subst hn
  have h1 := (h.stored (k * 2) (.int .i64 x.1)).1
  have h2 := (h1.stored (k * 2 + 1) (.int .i64 x.2)).1
  rw [encE_set x hk] at h2
  refine ⟨?_, hS⟩
  rw [List.length_set]
  exact h2
theorem OwnE.len {w : World} {base : Nat} {A : Option Addr} {n c : Nat} {es : List (Int × Int)} {S : List Nat} (h : OwnE w base (.slice A n c) es S) : n = es.length := by
  rcases ownsRow_cases h.1 with ⟨h1, h0⟩ | ⟨g, c, h1, _⟩
  · cases h1; omega
  · cases h1; rfl
theorem OwnEE.len {w : World} {base : Nat} {A : Option Addr} {n c : Nat} {es : List (List (Int × Int))} {S : List Nat} (h : OwnEE w base (.slice A n c) es S) : n = es.length := by
  obtain ⟨vs, Ss, h1, _⟩ := h
  rcases ownsRow_cases h1 with ⟨h1, h0⟩ | ⟨g, c, h1, _⟩
  · cases h1; omega
  · cases h1; rfl
theorem mkEE_set (a ess : List (List (Int × Int))) (j : Nat) (y : List (Int × Int)) (hl : a.length = j) (h : j < ess.length) : (a ++ ess.drop j).set j y = (a ++ [y]) ++ ess.drop (j + 1) := by
  rw [List.set_append_right _ _ (by omega), hl, Nat.sub_self, List.drop_eq_getElem_cons h, List.set_cons_zero, List.append_assoc]
  rfl
end Go.Proofs.Ytomnaabadohecaa
namespace Go.Proofs.Ytomnaabadohecaa
open Go.RowKit
/-- a network of the call's own -/
def OwnNet (w : World) (base : Nat) (ve vi vn : Value) (n : Net) (S : List Nat) : Prop :=
  ∃ S1 S2 S3, OwnEE w base ve n.ends S1 ∧ OwnI w base vi n.ids S2 ∧ OwnI w base vn n.inputs S3 ∧ S = S1 ++ (S2 ++ S3) ∧ S.Nodup
theorem OwnNet.read {w : World} {base : Nat} {ve vi vn : Value} {n : Net} {S : List Nat} (h : OwnNet w base ve vi vn n S) : NetIn w ve vi vn n := by
  obtain ⟨S1, S2, S3, h1, h2, h3, _⟩ := h
  exact ⟨OwnEE.read h1, h2.1.ints, h3.1.ints⟩
theorem OwnNet.range {w : World} {base : Nat} {ve vi vn : Value} {n : Net} {S : List Nat} (h : OwnNet w base ve vi vn n S) : ∀ k ∈ S, base ≤ k ∧ k < w.heap.size := by
  obtain ⟨S1, S2, S3, h1, h2, h3, h4, _⟩ := h
  intro k hk
  rw [h4] at hk
  rcases List.mem_append.1 hk with hk | hk
  · exact lawEE.range h1 k hk
  · rcases List.mem_append.1 hk with hk | hk
    · exact lawI.range h2 k hk
    · exact lawI.range h3 k hk
theorem OwnNet.stable {w w' : World} {base : Nat} {ve vi vn : Value} {n : Net} {S : List Nat} (h : OwnNet w base ve vi vn n S) (hs : ∀ k ∈ S, w'.heap[k]? = w.heap[k]?) : OwnNet w' base ve vi vn n S := by
  obtain ⟨S1, S2, S3, h1, h2, h3, h4, h5⟩ := h
  exact ⟨S1, S2, S3, lawEE.stable h1 (fun k hk => hs k (by rw [h4]; simp [hk])), lawI.stable h2 (fun k hk => hs k (by rw [h4]; simp [hk])), lawI.stable h3 (fun k hk => hs k (by rw [h4]; simp [hk])), h4, h5⟩
theorem OwnNet.keep {w w' : World} {base : Nat} {ve vi vn : Value} {n : Net} {S : List Nat} (h : OwnNet w base ve vi vn n S) (hb : Below w.heap.size w w') : OwnNet w' base ve vi vn n S :=
  h.stable fun k hk => hb.block k (h.range k hk).2
theorem OwnNet.mono {w : World} {base base' : Nat} {ve vi vn : Value} {n : Net} {S : List Nat} (h : OwnNet w base ve vi vn n S) (hb : base' ≤ base) : OwnNet w base' ve vi vn n S := by
  obtain ⟨S1, S2, S3, h1, h2, h3, h4, h5⟩ := h
  exact ⟨S1, S2, S3, lawEE.mono h1 hb, lawI.mono h2 hb, lawI.mono h3 hb, h4, h5⟩
def cntNet (n : Net) : Nat := cntEE n.ends + n.ids.length + n.inputs.length
/-- the marks of a network -/
def mkNet (k : Nat) (n : Net) : Net := { ends := mkEE k n.ends, ids := marks (k + cntEE n.ends) n.ids.length, inputs := marks (k + cntEE n.ends + n.ids.length) n.inputs.length }
theorem vne {S : List Nat} {w : World} {base : Nat} {v : Value} {xs : List Int} (h : OwnI w base v xs S) : S = v.ownBlock.toList := h.2
def eqEE (x y : List (List (Int × Int))) : Bool := decide (x = y)
theorem eqEndSS_b (v u : Value) (xs ys : List (List (Int × Int))) (w : World) (h : EndSS w v xs) (h' : EndSS w u ys) :
    Calls Try.prog 23 #[v, u] w fun e w' => e = .returned (.bool (eqEE xs ys)) ∧ Below w.heap.size w w' := eqEndSS_any v u xs ys w h h'
def eqIs (x y : List Int) : Bool := decide (x = y)
theorem eqIntS_b (v u : Value) (xs ys : List Int) (w : World) (h : IntS w v xs) (h' : IntS w u ys) :
    Calls Try.prog 24 #[v, u] w fun e w' => e = .returned (.bool (eqIs xs ys)) ∧ Below w.heap.size w w' := (eqIntS_any v u xs ys w h h').mono fun _ _ ⟨he, m, hm⟩ => ⟨he, by rw [hm]; exact below_drewN (Below.refl _ _) m⟩
set_option maxHeartbeats 1000000 in
theorem eqNetwork_same (ve vi vn ue ui un : Value) (n : Net) (w : World) (h : NetIn w ve vi vn n) (h' : NetIn w ue ui un n) :
    Calls Try.prog 8 #[.agg #[ve, vi, vn], .agg #[ue, ui, un]] w fun e w' => e = .returned (.bool true) ∧ Below w.heap.size w w' := by
  have hb0 : Below w.heap.size w ((w.alloc (.cells #[ve, vi, vn] 31)).alloc (.cells #[ue, ui, un] 31)) := ((Below.refl _ _).alloc (Nat.le_refl _) _).alloc (by simp) _
  have e1 : eqEE n.ends n.ends = true := by simp [eqEE]
  have e2 : eqIs n.ids n.ids = true := by simp [eqIs]
  have e3 : eqIs n.inputs n.inputs = true := by simp [eqIs]
  have g := h.keep hb0
  have g' := h'.keep hb0
  have HN := Lib.hid g
  have HN' := Lib.hid g'
  obtain ⟨⟨A1, z1, rfl, _⟩, ⟨A2, z2, rfl, _⟩, ⟨A3, z3, rfl, _⟩⟩ := g
  obtain ⟨⟨C1, y1, rfl, _⟩, ⟨C2, y2, rfl, _⟩, ⟨C3, y3, rfl, _⟩⟩ := g'
  have Hb0 := Lib.hid hb0
  clear h h' hb0
  go_enter Try.func8, Try.ntmps8
  go_wp2_with fail
  refine (eqEndSS_b _ _ n.ends n.ends _ (by exact HN.out.1) (by exact HN'.out.1)).mono ?_
  rintro e w1 ⟨rfl, hb1⟩
  have c1 : w1.cell? ⟨w.heap.size, 1, none⟩ = some (.slice A2 n.ids.length z2) := bc hb1 (by simp)
  have c2 : w1.cell? ⟨w.heap.size, 2, none⟩ = some (.slice A3 n.inputs.length z3) := bc hb1 (by simp)
  have c3 : w1.cell? ⟨w.heap.size + 1, 1, none⟩ = some (.slice C2 n.ids.length y2) := bc hb1 (by simp)
  have c4 : w1.cell? ⟨w.heap.size + 1, 2, none⟩ = some (.slice C3 n.inputs.length y3) := bc hb1 (by simp)
  have Hb1 := Lib.hid hb1
  have HN1 := Lib.hid (HN.out.keep hb1)
  have HN1' := Lib.hid (HN'.out.keep hb1)
  clear hb1 HN HN'
  go_wp2_with fail
  refine (eqIntS_b _ _ n.ids n.ids _ (by exact HN1.out.2.1) (by exact HN1'.out.2.1)).mono ?_
  rintro e w2 ⟨rfl, hb2⟩
  have c5 := bc hb2 c2
  have c6 := bc hb2 c4
  have Hb2 := Lib.hid hb2
  have HN2 := Lib.hid (HN1.out.keep hb2)
  have HN2' := Lib.hid (HN1'.out.keep hb2)
  clear hb2 HN1 HN1' c1 c2 c3 c4
  go_wp2_with fail
  refine (eqIntS_b _ _ n.inputs n.inputs _ (by exact HN2.out.2.2) (by exact HN2'.out.2.2)).mono ?_
  rintro e w3 ⟨rfl, hb3⟩
  have Hb3 := Lib.hid hb3
  clear hb3 c5 c6
  go_wp2_with fail
  go_ret
  have k1 := Hb0.out.trans (Hb1.out.mono Hb0.out.size)
  have k2 := k1.trans (Hb2.out.mono k1.size)
  exact ⟨rfl, k2.trans (Hb3.out.mono k2.size)⟩
end Go.Proofs.Ytomnaabadohecaa
/-
  DERIVED: THE SHELF's CONTRACTS AT THIS DUMP, IN PLAIN WORDS (tools/lay-plain.mjs out of 'TryShelf.lean', which tools/lay-shelf.mjs wrote): THE SAME DECLARATIONS UNDER THE SAME NAMES: 'import', 'namespace', 'open', 'def', 'theorem' AND NOTHING ELSE: no command of the shelf's: FOR A HAND-IN. Each laying: the table of numbers ('.._ren') and one theorem, a field a fact of the dump's own or the kernel's comparison; each contract: ONE APPLICATION.
-/
namespace Go.Proofs
open Go.Shelf
def Try.lays128_ren : Go.Shelf.Ren := ⟨fun | 128 => 83 | n => n, fun | 51 => 100 | 3 => 3 | 4 => 4 | 46 => 84 | 5 => 5 | 9 => 9 | n => n, fun | n => n⟩
theorem Try.lays128 : Go.Proofs.Lays.n128 Try.prog Try.lays128_ren := {
  mixed := by kernel_rfl
  f128 := Try.func83.trans (congrArg some (by kernel_rfl))
  t3 := Try.underlying3
  a3 := Try.isAgg3
  z3 := Try.sizeOf3
  v3 := Try.zeroValue3
  t4 := Try.underlying4
  a4 := Try.isAgg4
  z4 := Try.sizeOf4
  v4 := Try.zeroValue4
  t5 := Try.underlying5
  a5 := Try.isAgg5
  z5 := Try.sizeOf5
  v5 := Try.zeroValue5
  t9 := Try.underlying9
  a9 := Try.isAgg9
  z9 := Try.sizeOf9
  v9 := Try.zeroValue9
  t46 := Try.underlying84
  a46 := Try.isAgg84
  z46 := Try.sizeOf84
  v46 := Try.zeroValue84
  t51 := Try.underlying100
  a51 := Try.isAgg100
  z51 := Try.sizeOf100
  v51 := Try.zeroValue100 }
/-- bits.Len32: "Len32 returns the minimum number of bits required to represent x; the result is 0 for x == 0.": IT RETURNS 'Lib.bitLen x'; the world is as it was. ('h0', 'h1': x is a uint32.) (LAID: no walk: one application.) -/
theorem Try.bits_Len32 (x : Int) (w : World) (h0 : 0 ≤ x) (h1 : x ≤ 4294967295) :
    Calls Try.prog 83 #[.int .u32 x] w fun e w' => e = .returned (.int .i64 (Lib.bitLen x.toNat)) ∧ w' = w := Any.bits_Len32 Try.lays128 x w h0 h1
def Try.lays125_ren : Go.Shelf.Ren := ⟨fun | 125 => 68 | 128 => 83 | 129 => 84 | n => n, fun | 46 => 84 | 3 => 3 | 51 => 100 | 53 => 102 | 4 => 4 | 5 => 5 | 9 => 9 | n => n, fun | n => n⟩
theorem Try.lays125 : Go.Proofs.Lays.n125 Try.prog Try.lays125_ren := {
  mixed := by kernel_rfl
  f125 := Try.func68.trans (congrArg some (by kernel_rfl))
  f128 := Try.func83.trans (congrArg some (by kernel_rfl))
  f129 := Try.func84.trans (congrArg some (by kernel_rfl))
  t3 := Try.underlying3
  a3 := Try.isAgg3
  z3 := Try.sizeOf3
  v3 := Try.zeroValue3
  t4 := Try.underlying4
  a4 := Try.isAgg4
  z4 := Try.sizeOf4
  v4 := Try.zeroValue4
  t5 := Try.underlying5
  a5 := Try.isAgg5
  z5 := Try.sizeOf5
  v5 := Try.zeroValue5
  t9 := Try.underlying9
  a9 := Try.isAgg9
  z9 := Try.sizeOf9
  v9 := Try.zeroValue9
  t46 := Try.underlying84
  a46 := Try.isAgg84
  z46 := Try.sizeOf84
  v46 := Try.zeroValue84
  t51 := Try.underlying100
  a51 := Try.isAgg100
  z51 := Try.sizeOf100
  v51 := Try.zeroValue100
  t53 := Try.underlying102
  a53 := Try.isAgg102
  z53 := Try.sizeOf102
  v53 := Try.zeroValue102 }
/-- bits.Len: "Len returns the minimum number of bits required to represent x; the result is 0 for x == 0.": IT RETURNS 'Lib.bitLen x'; the world is as it was. (A uint has 64 bits in the model.) ITS CALLEE bits.Len64 IS MET BY ITS OWN CONTRACT OFF THE SHELF (lay that first). (LAID: no walk: one application.) -/
theorem Try.bits_Len (x : Int) (w : World) (h0 : 0 ≤ x) (h1 : x ≤ 18446744073709551615) :
    Calls Try.prog 68 #[.int .u64 x] w fun e w' => e = .returned (.int .i64 (Lib.bitLen x.toNat)) ∧ w' = w := Any.bits_Len Try.lays125 x w h0 h1
def Try.lays215_ren : Go.Shelf.Ren := ⟨fun | 215 => 94 | n => n, fun | 3 => 3 | 4 => 4 | n => n, fun | n => n⟩
theorem Try.lays215 : Go.Proofs.Lays.n215 Try.prog Try.lays215_ren := {
  mixed := by kernel_rfl
  f215 := Try.func94.trans (congrArg some (by kernel_rfl))
  t3 := Try.underlying3
  a3 := Try.isAgg3
  z3 := Try.sizeOf3
  v3 := Try.zeroValue3
  t4 := Try.underlying4
  a4 := Try.isAgg4
  z4 := Try.sizeOf4
  v4 := Try.zeroValue4 }
open Go.RowKit in
/-- cmp.isNaN at int: 'x != x': false. (LAID: no walk: one application.) -/
theorem Try.cmp_isNaN_int (x : Int) (w : World) :
    Calls Try.prog 94 #[.int .i64 x] w fun e w' => e = .returned (.bool false) ∧ w' = w := Any.cmp_isNaN_int Try.lays215 x w
def Try.lays129_ren : Go.Shelf.Ren := ⟨fun | 129 => 84 | n => n, fun | 53 => 102 | 3 => 3 | 4 => 4 | 46 => 84 | 5 => 5 | 9 => 9 | n => n, fun | n => n⟩
theorem Try.lays129 : Go.Proofs.Lays.n129 Try.prog Try.lays129_ren := {
  mixed := by kernel_rfl
  f129 := Try.func84.trans (congrArg some (by kernel_rfl))
  t3 := Try.underlying3
  a3 := Try.isAgg3
  z3 := Try.sizeOf3
  v3 := Try.zeroValue3
  t4 := Try.underlying4
  a4 := Try.isAgg4
  z4 := Try.sizeOf4
  v4 := Try.zeroValue4
  t5 := Try.underlying5
  a5 := Try.isAgg5
  z5 := Try.sizeOf5
  v5 := Try.zeroValue5
  t9 := Try.underlying9
  a9 := Try.isAgg9
  z9 := Try.sizeOf9
  v9 := Try.zeroValue9
  t46 := Try.underlying84
  a46 := Try.isAgg84
  z46 := Try.sizeOf84
  v46 := Try.zeroValue84
  t53 := Try.underlying102
  a53 := Try.isAgg102
  z53 := Try.sizeOf102
  v53 := Try.zeroValue102 }
/-- bits.Len64: "Len64 returns the minimum number of bits required to represent x; the result is 0 for x == 0.": IT RETURNS 'Lib.bitLen x'; the world is as it was. ('h0', 'h1': x is a uint64.) (LAID: no walk: one application.) -/
theorem Try.bits_Len64 (x : Int) (w : World) (h0 : 0 ≤ x) (h1 : x ≤ 18446744073709551615) :
    Calls Try.prog 84 #[.int .u64 x] w fun e w' => e = .returned (.int .i64 (Lib.bitLen x.toNat)) ∧ w' = w := Any.bits_Len64 Try.lays129 x w h0 h1
def Try.lays189_ren : Go.Shelf.Ren := ⟨fun | 189 => 58 | 125 => 68 | 257 => 67 | 128 => 83 | 129 => 84 | 294 => 74 | 295 => 75 | 296 => 76 | 297 => 77 | 298 => 78 | 299 => 79 | 216 => 80 | 300 => 81 | 301 => 82 | 328 => 89 | 329 => 90 | 330 => 91 | 331 => 92 | 332 => 93 | 215 => 94 | 343 => 95 | n => n, fun | 28 => 23 | 3 => 3 | 46 => 84 | 0 => 0 | 51 => 100 | 53 => 102 | 4 => 4 | 183 => 94 | 182 => 93 | 131 => 97 | 5 => 5 | 9 => 9 | 218 => 109 | 222 => 113 | 228 => 115 | 229 => 116 | n => n, fun | n => n⟩
theorem Try.lays189 : Go.Proofs.Lays.n189 Try.prog Try.lays189_ren := {
  mixed := by kernel_rfl
  f125 := Try.func68.trans (congrArg some (by kernel_rfl))
  f128 := Try.func83.trans (congrArg some (by kernel_rfl))
  f129 := Try.func84.trans (congrArg some (by kernel_rfl))
  f189 := Try.func58.trans (congrArg some (by kernel_rfl))
  f215 := Try.func94.trans (congrArg some (by kernel_rfl))
  f216 := Try.func80.trans (congrArg some (by kernel_rfl))
  f257 := Try.func67.trans (congrArg some (by kernel_rfl))
  f294 := Try.func74.trans (congrArg some (by kernel_rfl))
  f295 := Try.func75.trans (congrArg some (by kernel_rfl))
  f296 := Try.func76.trans (congrArg some (by kernel_rfl))
  f297 := Try.func77.trans (congrArg some (by kernel_rfl))
  f298 := Try.func78.trans (congrArg some (by kernel_rfl))
  f299 := Try.func79.trans (congrArg some (by kernel_rfl))
  f300 := Try.func81.trans (congrArg some (by kernel_rfl))
  f301 := Try.func82.trans (congrArg some (by kernel_rfl))
  f328 := Try.func89.trans (congrArg some (by kernel_rfl))
  f329 := Try.func90.trans (congrArg some (by kernel_rfl))
  f330 := Try.func91.trans (congrArg some (by kernel_rfl))
  f331 := Try.func92.trans (congrArg some (by kernel_rfl))
  f332 := Try.func93.trans (congrArg some (by kernel_rfl))
  f343 := Try.func95.trans (congrArg some (by kernel_rfl))
  t0 := Try.underlying0
  a0 := Try.isAgg0
  z0 := Try.sizeOf0
  v0 := Try.zeroValue0
  t3 := Try.underlying3
  a3 := Try.isAgg3
  z3 := Try.sizeOf3
  v3 := Try.zeroValue3
  t4 := Try.underlying4
  a4 := Try.isAgg4
  z4 := Try.sizeOf4
  v4 := Try.zeroValue4
  t5 := Try.underlying5
  a5 := Try.isAgg5
  z5 := Try.sizeOf5
  v5 := Try.zeroValue5
  t9 := Try.underlying9
  a9 := Try.isAgg9
  z9 := Try.sizeOf9
  v9 := Try.zeroValue9
  t28 := Try.underlying23
  a28 := Try.isAgg23
  z28 := Try.sizeOf23
  v28 := Try.zeroValue23
  t46 := Try.underlying84
  a46 := Try.isAgg84
  z46 := Try.sizeOf84
  v46 := Try.zeroValue84
  t51 := Try.underlying100
  a51 := Try.isAgg100
  z51 := Try.sizeOf100
  v51 := Try.zeroValue100
  t53 := Try.underlying102
  a53 := Try.isAgg102
  z53 := Try.sizeOf102
  v53 := Try.zeroValue102
  t131 := Try.underlying97
  a131 := Try.isAgg97
  z131 := Try.sizeOf97
  v131 := Try.zeroValue97
  t182 := Try.underlying93
  a182 := Try.isAgg93
  z182 := Try.sizeOf93
  v182 := Try.zeroValue93
  t183 := Try.underlying94
  a183 := Try.isAgg94
  z183 := Try.sizeOf94
  v183 := Try.zeroValue94
  t218 := Try.underlying109
  a218 := Try.isAgg109
  z218 := Try.sizeOf109
  v218 := Try.zeroValue109
  t222 := Try.underlying113
  a222 := Try.isAgg113
  z222 := Try.sizeOf113
  v222 := Try.zeroValue113
  t228 := Try.underlying115
  a228 := Try.isAgg115
  z228 := Try.sizeOf115
  v228 := Try.zeroValue115
  t229 := Try.underlying116
  a229 := Try.isAgg116
  z229 := Try.sizeOf116
  v229 := Try.zeroValue116 }
open Go.Sort Go.RowKit in
theorem Try.slices_Sort_int (blk off cap : Nat) (zs : List Int) (w : World) (hH : Holds (Value.int .i64) w blk off zs.toArray) (hblk : blk < w.heap.size) (hsz : zs.length < 4611686018427387904) :
    Calls Try.prog 58 #[.slice (some ⟨blk, off, none⟩) zs.length cap] w fun e w' =>
      e = .returned (.tuple #[]) ∧ ∃ n os, w' = grow (putRow (Value.int .i64) (Sort.ahead w n) blk off (zs.mergeSort fun x y => decide (x ≤ y)).toArray) os := Any.slices_Sort_int Try.lays189 blk off cap zs w hH hblk hsz
def Try.lays264_ren : Go.Shelf.Ren := ⟨fun | 264 => 87 | n => n, fun | 53 => 102 | 46 => 84 | n => n, fun | n => n⟩
theorem Try.lays264 : Go.Proofs.Lays.n264 Try.prog Try.lays264_ren := {
  mixed := by kernel_rfl
  f264 := Try.func87.trans (congrArg some (by kernel_rfl))
  t46 := Try.underlying84
  a46 := Try.isAgg84
  z46 := Try.sizeOf84
  v46 := Try.zeroValue84
  t53 := Try.underlying102
  a53 := Try.isAgg102
  z53 := Try.sizeOf102
  v53 := Try.zeroValue102 }
open Go.RowKit Go.Lib in
theorem Try.bits_Mul64 (x y : Nat) (hx : x < 18446744073709551616) (hy : y < 18446744073709551616) (w : World) :
    Calls Try.prog 87 #[.int .u64 x, .int .u64 y] w fun e w' => e = .returned (.tuple #[.int .u64 ((x * y / 18446744073709551616 : Nat) : Int), .int .u64 ((x * y % 18446744073709551616 : Nat) : Int)]) ∧ w' = w := Any.bits_Mul64 Try.lays264 x y hx hy w
def Try.lays212_ren : Go.Shelf.Ren := ⟨fun | 212 => 71 | 263 => 86 | 264 => 87 | n => n, fun | 46 => 84 | 51 => 100 | 146 => 104 | 53 => 102 | 148 => 106 | n => n, fun | n => n⟩
theorem Try.lays212 : Go.Proofs.Lays.n212 Try.prog Try.lays212_ren := {
  mixed := by kernel_rfl
  f212 := Try.func71.trans (congrArg some (by kernel_rfl))
  f263 := Try.func86.trans (congrArg some (by kernel_rfl))
  f264 := Try.func87.trans (congrArg some (by kernel_rfl))
  t46 := Try.underlying84
  a46 := Try.isAgg84
  z46 := Try.sizeOf84
  v46 := Try.zeroValue84
  t51 := Try.underlying100
  a51 := Try.isAgg100
  z51 := Try.sizeOf100
  v51 := Try.zeroValue100
  t53 := Try.underlying102
  a53 := Try.isAgg102
  z53 := Try.sizeOf102
  v53 := Try.zeroValue102
  t146 := Try.underlying104
  a146 := Try.isAgg104
  z146 := Try.sizeOf104
  v146 := Try.zeroValue104
  t148 := Try.underlying106
  a148 := Try.isAgg106
  z148 := Try.sizeOf106
  v148 := Try.zeroValue106 }
open Go.RowKit Go.Lib in
/-- math/bits.Mul: "Mul returns the full-width product of x and y": on a machine of 64 bits: Mul64's. (LAID: no walk: one application.) -/
theorem Try.bits_Mul (x y : Nat) (hx : x < 18446744073709551616) (hy : y < 18446744073709551616) (w : World) :
    Calls Try.prog 71 #[.int .u64 x, .int .u64 y] w fun e w' => e = .returned (.tuple #[.int .u64 ((x * y / 18446744073709551616 : Nat) : Int), .int .u64 ((x * y % 18446744073709551616 : Nat) : Int)]) ∧ w' = w := Any.bits_Mul Try.lays212 x y hx hy w
def Try.laysNm215_ren : Go.Shelf.Ren := ⟨fun | 15 => 57 | n => n, fun | 22 => 23 | 3 => 3 | 4 => 4 | n => n, fun | n => n⟩
theorem Try.laysNm215 : Go.Proofs.Lays2.n15 Try.prog Try.laysNm215_ren := {
  mixed := by kernel_rfl
  f15 := Try.func57.trans (congrArg some (by kernel_rfl))
  t3 := Try.underlying3
  a3 := Try.isAgg3
  z3 := Try.sizeOf3
  v3 := Try.zeroValue3
  t4 := Try.underlying4
  a4 := Try.isAgg4
  z4 := Try.sizeOf4
  v4 := Try.zeroValue4
  t22 := Try.underlying23
  a22 := Try.isAgg23
  z22 := Try.sizeOf23
  v22 := Try.zeroValue23
  i3 := by kernel_rfl }
open Go.RowKit Go.Lib in
/-- slices.Clone at []int: "Clone returns a copy of the slice. The elements are copied using assignment, so this is a shallow clone. The result may have additional unused capacity. The result preserves the nilness of s.": OF A SLICE THAT IS NOT nil IT RETURNS A SLICE THAT IS NOT nil, OF THE SAME ELEMENTS, IN MEMORY OF THE CALL's OWN: in the how-to's words (6f): 'w'.ownsRow B e 1 v' n cells': v' begins at the head of a row among the blocks from B on (B: the heap's size at the call), not frozen, whose first cells are the elements · 'Below B w w'': below B all is as it was. The capacity is whatever the run-time gives. 'zs': what the cells behind the slice's address hold; 'zs.take n': its elements. (LAID: no walk: one application.) -/
theorem Try.slices_Clone_int (b off n c : Nat) (zs : List Int) (w : World) (hz : n ≤ zs.length) (hbig : n * 8 ≤ 140737488355328) (hc : ∀ j, j < zs.length → w.cell? ⟨b, off + j, none⟩ = some (.int .i64 (zs.getD j 0))) :
    Calls Try.prog 57 #[.slice (some ⟨b, off, none⟩) n c] w fun e w' => ∃ v', e = .returned v' ∧ w'.ownsRow w.heap.size 3 1 v' n ((zs.take n).map (Value.int .i64)) ∧ v' ≠ .slice none 0 0 ∧ Below w.heap.size w w' := Any.slices_Clone_int Try.laysNm215 b off n c zs w hz hbig hc
open Go.RowKit Go.Lib in
/-- The same at nil: nil comes back; the world is as it was. (LAID: no walk: one application.) -/
theorem Try.slices_Clone_int_nil (n c : Nat) (w : World) :
    Calls Try.prog 57 #[.slice none n c] w fun e w' => e = .returned (.slice none 0 0) ∧ w' = w := Any.slices_Clone_int_nil Try.laysNm215 n c w
open Go.RowKit Go.Lib in
/-- The same at a slice of length 0 that is not nil, WHATEVER ITS ADDRESS (no cell is asked for): a slice that is not nil and owns nothing comes back. (LAID: no walk: one application.) -/
theorem Try.slices_Clone_int_zero (a : Addr) (c : Nat) (w : World) :
    Calls Try.prog 57 #[.slice (some a) 0 c] w fun e w' => ∃ v', e = .returned v' ∧ w'.ownsRow w.heap.size 3 1 v' 0 [] ∧ v' ≠ .slice none 0 0 ∧ Below w.heap.size w w' := Any.slices_Clone_int_zero Try.laysNm215 a c w
def Try.laysNm237_ren : Go.Shelf.Ren := ⟨fun | 37 => 94 | n => n, fun | 3 => 3 | 4 => 4 | n => n, fun | n => n⟩
theorem Try.laysNm237 : Go.Proofs.Lays2.n37 Try.prog Try.laysNm237_ren := {
  mixed := by kernel_rfl
  f37 := Try.func94.trans (congrArg some (by kernel_rfl))
  t3 := Try.underlying3
  a3 := Try.isAgg3
  z3 := Try.sizeOf3
  v3 := Try.zeroValue3
  t4 := Try.underlying4
  a4 := Try.isAgg4
  z4 := Try.sizeOf4
  v4 := Try.zeroValue4 }
open Go.RowKit Go.Lib in
/-- cmp.isNaN[int]: 'x != x': false. (LAID: no walk: one application.) -/
theorem Try.cmp_isNaN_int2 (x : Int) (w : World) :
    Calls Try.prog 94 #[.int .i64 x] w fun e w' => e = .returned (.bool false) ∧ w' = w := Any.cmp_isNaN_int2 Try.laysNm237 x w
def Try.laysNm231_ren : Go.Shelf.Ren := ⟨fun | 31 => 80 | 37 => 94 | n => n, fun | 3 => 3 | 4 => 4 | n => n, fun | n => n⟩
theorem Try.laysNm231 : Go.Proofs.Lays2.n31 Try.prog Try.laysNm231_ren := {
  mixed := by kernel_rfl
  f31 := Try.func80.trans (congrArg some (by kernel_rfl))
  f37 := Try.func94.trans (congrArg some (by kernel_rfl))
  t3 := Try.underlying3
  a3 := Try.isAgg3
  z3 := Try.sizeOf3
  v3 := Try.zeroValue3
  t4 := Try.underlying4
  a4 := Try.isAgg4
  z4 := Try.sizeOf4
  v4 := Try.zeroValue4 }
open Go.RowKit Go.Lib in
/-- cmp.Less[int]: "Less reports whether x is less than y.": 'x < y'; the world is as it was. (LAID: no walk: one application.) -/
theorem Try.cmp_Less_int2 (x y : Int) (w : World) :
    Calls Try.prog 80 #[.int .i64 x, .int .i64 y] w fun e w' => e = .returned (.bool (decide (x < y))) ∧ w' = w := Any.cmp_Less_int2 Try.laysNm231 x y w
open Go.RowKit Go.Sort in
/-- .. and plain. (LAID: no walk: one application.) -/
theorem Try.slices_Sort_int_none (p : Option Addr) (cap : Nat) (w : World) :
    Calls Try.prog 58 #[.slice p 0 cap] w fun e w' => e = .returned (.tuple #[]) ∧ w' = w := Any.slices_Sort_int_none Try.lays189 p cap w
end Go.Proofs
namespace Go.Proofs.Ytomnaabadohecaa
open Go.RowKit Go.Sort
theorem own_put {w : World} {base g c n : Nat} {xs ys : List Int} (h : Own w base (.slice (some ⟨g, 0, none⟩) n c) xs) (hl : ys.length = xs.length) (q : Nat) (os : Array Obj) :
    Own (grow (putRow (Value.int .i64) (Sort.ahead w q) g 0 ys.toArray) os) base (.slice (some ⟨g, 0, none⟩) n c) ys ∧ w.grownBy (grow (putRow (Value.int .i64) (Sort.ahead w q) g 0 ys.toArray) os) (some g) := by
  obtain rfl := h.len
  have hblk := h.blk
  rcases h.2 with ⟨h', _⟩ | ⟨g', cap', cur, h', hb, hg, hnc, hm, hcs, htake⟩
  · simp at h'
  · simp only [Value.slice.injEq, Option.some.injEq, Addr.mk.injEq, and_true, true_and] at h'
    obtain ⟨rfl, rfl⟩ := h'
    have hgg : (grow (putRow (Value.int .i64) (Sort.ahead w q) g 0 ys.toArray) os).heap[g]? = some (.cells (putCells (Value.int .i64) 0 ys.toArray cur) 3 (0, 0)) := by
      show ((w.heap.modify g (onCells (putCells (Value.int .i64) 0 ys.toArray))) ++ os)[g]? = _
      rw [Array.getElem?_append_left (by rw [Array.size_modify]; exact hblk.2), Array.getElem?_modify, if_pos rfl, hg]
      rfl
    refine ⟨⟨by simp, .inr ⟨g, c, putCells (Value.int .i64) 0 ys.toArray cur, by rw [hl], hb, hgg, by omega, hm, by simpa [putCells] using hcs, ?_⟩⟩, ⟨rfl, rfl, rfl, ?_, ?_⟩⟩
    · apply List.ext_getElem?
      intro j
      rw [List.getElem?_take, List.getElem?_map]
      by_cases hj : j < ys.length
      · rw [if_pos (by omega), Array.getElem?_toList]
        have hj2 : j < cur.size := by omega
        simp [putCells, hj, hj2]
      · rw [if_neg (by omega)]
        simp [hj]
    · show w.heap.size ≤ ((w.heap.modify g _) ++ os).size
      rw [Array.size_append, Array.size_modify]; omega
    · intro k hk hne
      show ((w.heap.modify g _) ++ os)[k]? = _
      rw [Array.getElem?_append_left (by rw [Array.size_modify]; exact hk), Array.getElem?_modify, if_neg (fun e => hne (by rw [e]))]
theorem own_holds {w : World} {base g c n : Nat} {xs : List Int} (h : Own w base (.slice (some ⟨g, 0, none⟩) n c) xs) : Holds (Value.int .i64) w g 0 xs.toArray := by
  intro j hj
  have hj' : j < xs.length := by simpa using hj
  rw [Nat.zero_add]
  refine ⟨?_, h.free j⟩
  have : xs[j]? = some (xs.toArray[j]!) := by simp [hj']
  exact h.cell this
theorem sort_any (v : Value) (xs : List Int) (w : World) (base : Nat) (h : Own w base v xs) (hl : xs.length ≤ 17592186044416) :
    Calls Try.prog 58 #[v] w fun e w' => e = .returned (.tuple #[]) ∧ Own w' base v (xs.mergeSort fun x y => decide (x ≤ y)) ∧ w.grownBy w' v.ownBlock := by
  rcases h.cases with ⟨rfl, rfl⟩ | ⟨g, c, rfl, hb1, hb2⟩
  · exact (Try.slices_Sort_int_none none 0 w).mono fun e w' ⟨he, hw⟩ => ⟨he, by rw [List.mergeSort_nil]; exact hw ▸ h, hw ▸ World.grownBy.refl _ _⟩
  · refine (Try.slices_Sort_int g 0 c xs w (own_holds h) hb2 (by omega)).mono fun e w' ⟨he, q, os, hw⟩ => ⟨he, ?_⟩
    subst hw
    exact own_put h (by simp [List.length_mergeSort]) q os
theorem clone_any (v : Value) (xs : List Int) (w : World) (h : IntS w v xs) (hl : xs.length ≤ 17592186044416) :
    Calls Try.prog 57 #[v] w fun e w' => ∃ u, e = .returned u ∧ Own w' w.heap.size u xs ∧ Below w.heap.size w w' := by
  obtain ⟨A, c, rfl, hlc, hm, hA⟩ := h
  rcases Nat.eq_zero_or_pos xs.length with h0 | h0
  · obtain rfl : xs = [] := List.eq_nil_of_length_eq_zero h0
    cases A with
    | none => exact (Try.slices_Clone_int_nil 0 c w).mono fun e w' ⟨he, hw⟩ => ⟨_, he, World.ownsRow_nil _ _ _ _, hw ▸ Below.refl _ _⟩
    | some a => exact (Try.slices_Clone_int_zero a c w).mono fun e w' ⟨u, he, ho, _, hb⟩ => ⟨u, he, ho, hb⟩
  · obtain ⟨x, hx⟩ := getx xs 0 h0
    obtain ⟨b, off, rfl, h1⟩ := hA 0 x hx
    refine (Try.slices_Clone_int b off xs.length c xs w (Nat.le_refl _) (by omega) ?_).mono fun e w' ⟨u, he, ho, _, hb⟩ => ⟨u, he, ?_, hb⟩
    · intro j hj
      obtain ⟨y, hy⟩ := getx xs j hj
      obtain ⟨b', off', he, hc⟩ := hA j y hy
      injection he with he
      injection he with e1 e2
      subst e1 e2
      rw [hc]; simp [hy]
    · rw [List.take_length] at ho
      exact ho
end Go.Proofs.Ytomnaabadohecaa
