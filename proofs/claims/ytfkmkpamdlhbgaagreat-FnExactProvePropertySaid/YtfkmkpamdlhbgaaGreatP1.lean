/- Parts of the proof: walks of functions and plain laws. -/
import Derived.Test.YtfkmkpamdlhbgaaGreatP0
import Derived.Shelf.Small.Bits
import Derived.Shelf.Small.Wraps
import Derived.Shelf.Strconv.Itoa0
import Derived.Shelf.Sort.Plain
import Derived.Shelf.Bits.Mul64
import Derived.Shelf.Slices.Reverse
import Derived.Ground.Names2Prog
import Derived.Shelf.Slices.Clone
import Derived.Shelf.Slices.SearchI
import Derived.Shelf.Slices.Cells
import Derived.Shelf.Slices.In.SortNone
import Derived.Test.YtfkmkpamdlhbgaaGreatProg
namespace Go.Proofs.YtfkmkpamdlhbgaaGreat
open Go.RowKit
def encE (e : Int × Int) : List Value := [.int .i64 e.1, .int .i64 e.2]
/-- a row of ends -/
def OwnE : World → Nat → Value → List (Int × Int) → List Nat → Prop := LeafR 62 2 encE
theorem lawE : RowLaw OwnE := leaf_law _ _ _
/-- a row of rows of ends -/
def OwnEE : World → Nat → Value → List (List (Int × Int)) → List Nat → Prop := OwnRows 60 OwnE
theorem lawEE : RowLaw OwnEE := rows_law _ lawE
/-- integers, with their block -/
def OwnI (w : World) (base : Nat) (v : Value) (xs : List Int) (S : List Nat) : Prop := Own w base v xs ∧ S = v.ownBlock.toList
theorem lawI : RowLaw OwnI where
  stable := fun ⟨h, hS⟩ hs => ⟨ownsRow_stable h (fun k hk => hs k (by rw [hS]; exact hk)), hS⟩
  range := fun ⟨h, hS⟩ k hk => World.ownsRow.lt h k (by rw [hS] at hk; simpa using hk)
  nodup := fun {_ _ v _ _} ⟨_, hS⟩ => by rw [hS]; cases v.ownBlock <;> simp
  mono := fun ⟨h, hS⟩ hb => ⟨ownsRow_mono h hb, hS⟩
  one := fun ⟨h, _⟩ => ownsRow_one h
theorem encE_get {es : List (Int × Int)} {k : Nat} {x : Int × Int} (h : es[k]? = some x) : (es.flatMap encE)[k * 2]? = some (.int .i64 x.1) ∧ (es.flatMap encE)[k * 2 + 1]? = some (.int .i64 x.2) := by
  induction es generalizing k with
  | nil => simp at h
  | cons e es ih =>
    cases k with
    | zero => simp at h; subst h; simp [encE]
    | succ k =>
      have := ih (k := k) (by simpa using h)
      rw [List.flatMap_cons, show (k + 1) * 2 = k * 2 + 2 by omega]
      simp only [encE, List.cons_append, List.nil_append]
      exact ⟨by simpa using this.1, by rw [show k * 2 + 2 + 1 = (k * 2 + 1) + 1 + 1 by omega]; simpa using this.2⟩
theorem encE_set {es : List (Int × Int)} {k : Nat} (x : Int × Int) (h : k < es.length) : ((es.flatMap encE).set (k * 2) (.int .i64 x.1)).set (k * 2 + 1) (.int .i64 x.2) = (es.set k x).flatMap encE := by
  induction es generalizing k with
  | nil => simp at h
  | cons e es ih =>
    cases k with
    | zero => simp [encE]
    | succ k =>
      have := ih (k := k) (by simpa using h)
      rw [List.flatMap_cons, show (k + 1) * 2 = k * 2 + 1 + 1 by omega]
      simp only [encE, List.cons_append, List.nil_append, List.set_cons_succ, List.flatMap_cons] at this ⊢
      rw [this]
theorem OwnE.read {w : World} {base : Nat} {v : Value} {es : List (Int × Int)} {S : List Nat} (h : OwnE w base v es S) : EndS w v es := by
  obtain ⟨h, hS⟩ := h
  rcases ownsRow_cases h with ⟨rfl, h0⟩ | ⟨g, c, rfl, hb, hg, hc, hm⟩
  · obtain rfl : es = [] := List.eq_nil_of_length_eq_zero h0
    exact ⟨none, 0, rfl, Nat.le_refl _, Nat.zero_le _, fun k x hk => by simp at hk⟩
  · refine ⟨_, c, rfl, hc, hm, fun k x hk => ⟨g, 0, rfl, ?_, ?_⟩⟩
    · have := lt_of_get hk
      rw [Nat.zero_add, h.cellAt (cap := c) _ (by omega)]; exact (encE_get hk).1
    · have := lt_of_get hk
      rw [Nat.zero_add, h.cellAt (cap := c) _ (by omega)]; exact (encE_get hk).2
theorem OwnEE.read {w : World} {base : Nat} {v : Value} {ess : List (List (Int × Int))} {S : List Nat} (h : OwnEE w base v ess S) : EndSS w v ess := by
  obtain ⟨vs, Ss, h1, h2, h3, h4, h5⟩ := h
  rcases ownsRow_cases h1 with ⟨rfl, h0⟩ | ⟨g, c, rfl, hb, hg, hc, hm⟩
  · obtain rfl : ess = [] := List.eq_nil_of_length_eq_zero h0
    exact ⟨none, 0, rfl, Nat.le_refl _, Nat.zero_le _, fun k x hk => by simp at hk⟩
  · have hvl : vs.length = ess.length := by simpa using h1.1
    refine ⟨_, c, rfl, hc, hm, fun k x hk => ?_⟩
    have hlt := lt_of_get hk
    obtain ⟨u, hu⟩ := getx vs k (by omega)
    obtain ⟨T, hT⟩ := getx Ss k (by omega)
    exact ⟨g, 0, u, rfl, by rw [Nat.zero_add, h1.cellAt (cap := c) _ (by omega)]; exact hu, OwnE.read (h3 k u x T hu hk hT)⟩
/-- the marks of a row of ends -/
def mkE (k m : Nat) : List (Int × Int) := (List.range m).map fun i => (((k + 2 * i : Nat) : Int), ((k + 2 * i + 1 : Nat) : Int))
theorem mkE_len (k m : Nat) : (mkE k m).length = m := by simp [mkE]
theorem mkE_set (es : List (Int × Int)) (k j : Nat) (h : j < es.length) : (mkE k j ++ es.drop j).set j (((k + 2 * j : Nat) : Int), ((k + 2 * j + 1 : Nat) : Int)) = mkE k (j + 1) ++ es.drop (j + 1) := by
  have hl := mkE_len k j
  rw [List.set_append_right _ _ (by omega), hl, Nat.sub_self, List.drop_eq_getElem_cons h, List.set_cons_zero]
  rw [show mkE k (j + 1) = mkE k j ++ [(((k + 2 * j : Nat) : Int), ((k + 2 * j + 1 : Nat) : Int))] by simp [mkE, List.range_succ], List.append_assoc]
  rfl
/-- the marks of rows of ends -/
def mkEE : Nat → List (List (Int × Int)) → List (List (Int × Int))
  | _, [] => []
  | k, es :: r => mkE k es.length :: mkEE (k + 2 * es.length) r
def cntEE : List (List (Int × Int)) → Nat
  | [] => 0
  | es :: r => 2 * es.length + cntEE r
theorem mkEE_append (k : Nat) (a b : List (List (Int × Int))) : mkEE k (a ++ b) = mkEE k a ++ mkEE (k + cntEE a) b := by
  induction a generalizing k with
  | nil => simp [mkEE, cntEE]
  | cons x a ih => simp [mkEE, cntEE, ih, Nat.add_assoc]
theorem cntEE_append (a b : List (List (Int × Int))) : cntEE (a ++ b) = cntEE a + cntEE b := by
  induction a with
  | nil => simp [cntEE]
  | cons x a ih => simp [cntEE, ih]; omega
theorem mkEE_len (k : Nat) (a : List (List (Int × Int))) : (mkEE k a).length = a.length := by
  induction a generalizing k with
  | nil => rfl
  | cons x a ih => simp [mkEE, ih]
theorem cntEE_take (a : List (List (Int × Int))) (k : Nat) : cntEE (a.take k) ≤ cntEE a := by
  rw [show cntEE a = cntEE (a.take k ++ a.drop k) by rw [List.take_append_drop], cntEE_append]; omega
end Go.Proofs.YtfkmkpamdlhbgaaGreat
namespace Go.Proofs.YtfkmkpamdlhbgaaGreat
open Go.RowKit
theorem OwnE.cells {w : World} {base g c n : Nat} {es : List (Int × Int)} {S : List Nat} (h : OwnE w base (.slice (some ⟨g, 0, none⟩) n c) es S) {k : Nat} {x : Int × Int} (hx : es[k]? = some x) :
    w.cell? ⟨g, k * 2, none⟩ = some (.int .i64 x.1) ∧ w.cell? ⟨g, k * 2 + 1, none⟩ = some (.int .i64 x.2) ∧ w.frozen? ⟨g, k * 2, none⟩ = false ∧ w.frozen? ⟨g, k * 2 + 1, none⟩ = false := by
  obtain ⟨h, _⟩ := h
  have hn := ownsRow_len h
  subst hn
  have := lt_of_get hx
  exact ⟨by rw [h.cellAt (cap := c) _ (by omega)]; exact (encE_get hx).1, by rw [h.cellAt (cap := c) _ (by omega)]; exact (encE_get hx).2, h.frozenAt _, h.frozenAt _⟩
theorem OwnE.set {w : World} {base g c n : Nat} {es : List (Int × Int)} {S : List Nat} (h : OwnE w base (.slice (some ⟨g, 0, none⟩) n c) es S) {k : Nat} (hk : k < es.length) (x : Int × Int) :
    OwnE ((w.setCell ⟨g, k * 2, none⟩ (.int .i64 x.1)).setCell ⟨g, k * 2 + 1, none⟩ (.int .i64 x.2)) base (.slice (some ⟨g, 0, none⟩) n c) (es.set k x) S := by
  obtain ⟨h, hS⟩ := h
  have hn := ownsRow_len h
  subst hn
  have h1 := (h.stored (k * 2) (.int .i64 x.1)).1
  have h2 := (h1.stored (k * 2 + 1) (.int .i64 x.2)).1
  rw [encE_set x hk] at h2
  refine ⟨?_, hS⟩
  rw [List.length_set]
  exact h2
theorem OwnE.len {w : World} {base : Nat} {A : Option Addr} {n c : Nat} {es : List (Int × Int)} {S : List Nat} (h : OwnE w base (.slice A n c) es S) : n = es.length := by
  rcases ownsRow_cases h.1 with ⟨h1, h0⟩ | ⟨g, c, h1, _⟩
  · cases h1; omega
  · cases h1; rfl
theorem OwnEE.len {w : World} {base : Nat} {A : Option Addr} {n c : Nat} {es : List (List (Int × Int))} {S : List Nat} (h : OwnEE w base (.slice A n c) es S) : n = es.length := by
  obtain ⟨vs, Ss, h1, _⟩ := h
  rcases ownsRow_cases h1 with ⟨h1, h0⟩ | ⟨g, c, h1, _⟩
  · cases h1; omega
  · cases h1; rfl
set_option maxHeartbeats 400000 in
theorem markEndS_any (v : Value) (es : List (Int × Int)) (k : Nat) (w : World) (base : Nat) (S : List Nat) (h : OwnE w base v es S) (hl : k + 2 * es.length ≤ 4611686018427387904) :
    Calls Tryz.prog 107 #[v, .int .i64 k] w fun e w' => e = .returned (.int .i64 ((k + 2 * es.length : Nat) : Int)) ∧ OwnE w' base v (mkE k es.length) S ∧ Only S w w' := by
  rcases ownsRow_cases h.1 with ⟨rfl, h0⟩ | ⟨g, c, rfl, hb1, hb2, hb3, hb4⟩
  · obtain rfl : es = [] := List.eq_nil_of_length_eq_zero h0
    go_enter Tryz.func107, Tryz.ntmps107
    go_wp2
    go_loop [1, 5] (fun m i => m = .int .i64 k ∧ i = .int .i64 0) (fun _ _ => 0)
    case atStart => exact ⟨rfl, rfl⟩
    case round =>
      obtain ⟨rfl, rfl⟩ := hrel
      go_wp2
      go_ret
      exact ⟨ret_int (by simp), h, Only.refl _ _⟩
  · have hgS : g ∈ S := by rw [h.2]; simp [Value.ownBlock]
    have Ho := Lib.hid h
    have HgS := Lib.hid hgS
    clear h hgS
    unfold maxLen at hb4
    go_enter Tryz.func107, Tryz.ntmps107
    go_wp2
    go_loopw [1, 5] (fun m i wr => ∃ j : Nat, j ≤ es.length ∧ i = .int .i64 j ∧ m = .int .i64 ((k + 2 * j : Nat) : Int) ∧ OwnE wr base (.slice (some ⟨g, 0, none⟩) es.length c) (mkE k j ++ es.drop j) S ∧ Only S w wr) (fun _ i _ => es.length - (intOf i).toNat)
    case atStart => exact ⟨0, Nat.zero_le _, rfl, rfl, by simpa [mkE] using Ho.out, Only.refl _ _⟩
    case round =>
      obtain ⟨j, hj, rfl, rfl, ho, hg⟩ := hrel
      by_cases hlt : j < es.length
      · obtain ⟨y, hy⟩ := getx (mkE k j ++ es.drop j) j (by simp [mkE_len]; omega)
        obtain ⟨c1, c2, f1, f2⟩ := ho.cells hy
        have Ho1 := Lib.hid ho
        have Hg := Lib.hid hg
        clear hy ho hg
        go_wp2
        go_roundw
        case rel =>
          refine ⟨j + 1, by omega, by go_num, by go_num, ?_, (Hg.out.setCell (.inl HgS.out) _).setCell (.inl HgS.out) _⟩
          have := Ho1.out.set (k := j) (by simp [mkE_len]; omega) (((k + 2 * j : Nat) : Int), ((k + 2 * j + 1 : Nat) : Int))
          rw [mkE_set _ _ _ hlt] at this
          simpa using this
        case measure => simp [intOf]; omega
      · obtain rfl : j = es.length := by omega
        have Ho1 := Lib.hid ho
        have Hg := Lib.hid hg
        clear ho hg
        go_wp2
        go_ret
        exact ⟨ret_int (by simp), by have := Ho1.out; rwa [List.drop_length, List.append_nil] at this, Hg.out⟩
theorem mkEE_set (a ess : List (List (Int × Int))) (j : Nat) (y : List (Int × Int)) (hl : a.length = j) (h : j < ess.length) : (a ++ ess.drop j).set j y = (a ++ [y]) ++ ess.drop (j + 1) := by
  rw [List.set_append_right _ _ (by omega), hl, Nat.sub_self, List.drop_eq_getElem_cons h, List.set_cons_zero, List.append_assoc]
  rfl
set_option maxHeartbeats 400000 in
theorem markEndSS_any (v : Value) (ess : List (List (Int × Int))) (k : Nat) (w : World) (base : Nat) (S : List Nat) (h : OwnEE w base v ess S) (hl : k + cntEE ess ≤ 4611686018427387904) :
    Calls Tryz.prog 59 #[v, .int .i64 k] w fun e w' => e = .returned (.int .i64 ((k + cntEE ess : Nat) : Int)) ∧ OwnEE w' base v (mkEE k ess) S ∧ Only S w w' := by
  rcases (show _ ∨ _ by obtain ⟨vs, Ss, h1, _⟩ := h; exact ownsRow_cases h1) with ⟨rfl, h0⟩ | ⟨g, c, rfl, hb1, hb2, hb3, hb4⟩
  · obtain rfl : ess = [] := List.eq_nil_of_length_eq_zero h0
    go_enter Tryz.func59, Tryz.ntmps59
    go_wp2
    go_loop [1, 5] (fun m i => m = .int .i64 k ∧ i = .int .i64 0) (fun _ _ => 0)
    case atStart => exact ⟨rfl, rfl⟩
    case round =>
      obtain ⟨rfl, rfl⟩ := hrel
      go_wp2
      go_ret
      exact ⟨ret_int (by simp [cntEE]), h, Only.refl _ _⟩
  · have Ho := Lib.hid h
    clear h
    unfold maxLen at hb4
    go_enter Tryz.func59, Tryz.ntmps59
    go_wp2
    go_loopw [1, 5] (fun m i wr => ∃ j : Nat, j ≤ ess.length ∧ i = .int .i64 j ∧ m = .int .i64 ((k + cntEE (ess.take j) : Nat) : Int) ∧ OwnEE wr base (.slice (some ⟨g, 0, none⟩) ess.length c) (mkEE k (ess.take j) ++ ess.drop j) S ∧ Only S w wr) (fun _ i _ => ess.length - (intOf i).toNat)
    case atStart => exact ⟨0, Nat.zero_le _, rfl, rfl, by simpa [mkEE] using Ho.out, Only.refl _ _⟩
    case round =>
      obtain ⟨j, hj, rfl, rfl, ho, hg⟩ := hrel
      have hct := cntEE_take ess j
      by_cases hlt : j < ess.length
      · obtain ⟨es, hes⟩ := getx ess j hlt
        have hct2 := cntEE_take ess (j + 1)
        rw [take_snoc hes, cntEE_append] at hct2
        simp only [cntEE] at hct2
        have hml : (mkEE k (ess.take j)).length = j := by rw [mkEE_len]; simp; omega
        have hy : (mkEE k (ess.take j) ++ ess.drop j)[j]? = some es := by
          rw [List.getElem?_append_right (by omega), hml, Nat.sub_self, List.getElem?_drop]; simpa using hes
        obtain ⟨u, T, hc1, hR, hTS, hback⟩ := OwnRows.touch lawE ho hy
        have Hs := Lib.hid hback
        have HR := Lib.hid hR
        have HTS := Lib.hid hTS
        have Hg := Lib.hid hg
        have Hes := Lib.hid hes
        have Hml := Lib.hid hml
        obtain ⟨A1, n1, z1, rfl⟩ := lawE.one hR
        clear hy ho hg hR hback hes hml hTS
        obtain ⟨cn, hcn⟩ : ∃ cn, cntEE (ess.take j) = cn := ⟨_, rfl⟩
        rw [hcn] at hct2 ⊢
        have Hcn := Lib.hid hcn
        clear hcn hct
        go_wp2_with fail
        refine (markEndS_any _ es (k + cn) _ base T (by exact HR.out) (by omega)).mono ?_
        rintro e w1 ⟨rfl, ho1, hon⟩
        have Hon := Lib.hid (Hg.out.trans (hon.mono HTS.out))
        have Hrow := Lib.hid (Hs.out _ w1 ho1 hon)
        clear ho1 hon
        go_wp2
        go_roundw
        case rel =>
          refine ⟨j + 1, by omega, by go_num, ?_, ?_, Hon.out⟩
          · rw [take_snoc Hes.out, cntEE_append, Hcn.out]
            congr 1
            simp only [cntEE]
            omega
          · rw [take_snoc Hes.out, mkEE_append, Hcn.out]
            have := Hrow.out
            rw [mkEE_set _ _ _ _ Hml.out hlt] at this
            exact this
        case measure => simp [intOf]; omega
      · obtain rfl : j = ess.length := by omega
        have Ho1 := Lib.hid ho
        have Hg := Lib.hid hg
        clear ho hg
        go_wp2
        go_ret
        exact ⟨ret_int (by simp), by have := Ho1.out; rwa [List.drop_length, List.append_nil, List.take_length] at this, Hg.out⟩
end Go.Proofs.YtfkmkpamdlhbgaaGreat
namespace Go.Proofs.YtfkmkpamdlhbgaaGreat
open Go.RowKit
/-- a network of the call's own -/
def OwnNet (w : World) (base : Nat) (ve vi vn : Value) (n : Net) (S : List Nat) : Prop :=
  ∃ S1 S2 S3, OwnEE w base ve n.ends S1 ∧ OwnI w base vi n.ids S2 ∧ OwnI w base vn n.inputs S3 ∧ S = S1 ++ (S2 ++ S3) ∧ S.Nodup
theorem OwnNet.read {w : World} {base : Nat} {ve vi vn : Value} {n : Net} {S : List Nat} (h : OwnNet w base ve vi vn n S) : NetIn w ve vi vn n := by
  obtain ⟨S1, S2, S3, h1, h2, h3, _⟩ := h
  exact ⟨OwnEE.read h1, h2.1.ints, h3.1.ints⟩
theorem OwnNet.range {w : World} {base : Nat} {ve vi vn : Value} {n : Net} {S : List Nat} (h : OwnNet w base ve vi vn n S) : ∀ k ∈ S, base ≤ k ∧ k < w.heap.size := by
  obtain ⟨S1, S2, S3, h1, h2, h3, h4, _⟩ := h
  intro k hk
  rw [h4] at hk
  rcases List.mem_append.1 hk with hk | hk
  · exact lawEE.range h1 k hk
  · rcases List.mem_append.1 hk with hk | hk
    · exact lawI.range h2 k hk
    · exact lawI.range h3 k hk
theorem OwnNet.stable {w w' : World} {base : Nat} {ve vi vn : Value} {n : Net} {S : List Nat} (h : OwnNet w base ve vi vn n S) (hs : ∀ k ∈ S, w'.heap[k]? = w.heap[k]?) : OwnNet w' base ve vi vn n S := by
  obtain ⟨S1, S2, S3, h1, h2, h3, h4, h5⟩ := h
  exact ⟨S1, S2, S3, lawEE.stable h1 (fun k hk => hs k (by rw [h4]; simp [hk])), lawI.stable h2 (fun k hk => hs k (by rw [h4]; simp [hk])), lawI.stable h3 (fun k hk => hs k (by rw [h4]; simp [hk])), h4, h5⟩
theorem OwnNet.keep {w w' : World} {base : Nat} {ve vi vn : Value} {n : Net} {S : List Nat} (h : OwnNet w base ve vi vn n S) (hb : Below w.heap.size w w') : OwnNet w' base ve vi vn n S :=
  h.stable fun k hk => hb.block k (h.range k hk).2
theorem OwnNet.mono {w : World} {base base' : Nat} {ve vi vn : Value} {n : Net} {S : List Nat} (h : OwnNet w base ve vi vn n S) (hb : base' ≤ base) : OwnNet w base' ve vi vn n S := by
  obtain ⟨S1, S2, S3, h1, h2, h3, h4, h5⟩ := h
  exact ⟨S1, S2, S3, lawEE.mono h1 hb, lawI.mono h2 hb, lawI.mono h3 hb, h4, h5⟩
def cntNet (n : Net) : Nat := cntEE n.ends + n.ids.length + n.inputs.length
/-- the marks of a network -/
def mkNet (k : Nat) (n : Net) : Net := { ends := mkEE k n.ends, ids := marks (k + cntEE n.ends) n.ids.length, inputs := marks (k + cntEE n.ends + n.ids.length) n.inputs.length }
set_option maxHeartbeats 1000000 in
theorem markNetwork_any (ve vi vn : Value) (n : Net) (k : Nat) (w : World) (base : Nat) (S : List Nat) (h : OwnNet w base ve vi vn n S) (hl : k + cntNet n ≤ 4611686018427387904) :
    Calls Tryz.prog 24 #[.agg #[ve, vi, vn], .int .i64 k] w fun e w' => e = .returned (.int .i64 ((k + cntNet n : Nat) : Int)) ∧ OwnNet w' base ve vi vn (mkNet k n) S ∧ Only S w w' := by
  have hr := h.range
  obtain ⟨S1, S2, S3, h1, h2, h3, h4, h5⟩ := h
  unfold cntNet at hl ⊢
  have hnd := h5
  rw [h4, List.nodup_append] at hnd
  have hnd2 := hnd.2.1
  rw [List.nodup_append] at hnd2
  have d12 : ∀ j ∈ S1, j ∉ S2 := fun j a b => hnd.2.2 j a j (List.mem_append_left _ b) rfl
  have d13 : ∀ j ∈ S1, j ∉ S3 := fun j a b => hnd.2.2 j a j (List.mem_append_right _ b) rfl
  have d23 : ∀ j ∈ S2, j ∉ S3 := fun j a b => hnd2.2.2 j a j b rfl
  have b1 := fun j hj => (lawEE.range h1 j hj).2
  have b2 := fun j hj => (lawI.range h2 j hj).2
  have b3 := fun j hj => (lawI.range h3 j hj).2
  have hb0 : Below w.heap.size w (w.alloc (.cells #[ve, vi, vn] 27)) := (Below.refl _ _).alloc (Nat.le_refl _) _
  have h1' := lawEE.keep h1 hb0
  have h2' := lawI.keep h2 hb0
  have h3' := lawI.keep h3 hb0
  obtain ⟨A1, n1, z1, rfl⟩ := lawEE.one h1
  obtain ⟨A2, n2, z2, rfl⟩ := lawI.one h2
  obtain ⟨A3, n3, z3, rfl⟩ := lawI.one h3
  have H1 := Lib.hid h1'
  have H2 := Lib.hid h2'
  have H3 := Lib.hid h3'
  have D12 := Lib.hid d12
  have D13 := Lib.hid d13
  have D23 := Lib.hid d23
  have B1 := Lib.hid b1
  have B2 := Lib.hid b2
  have B3 := Lib.hid b3
  have H4 := Lib.hid h4
  have H5 := Lib.hid h5
  have Hb0 := Lib.hid hb0
  clear h1 h2 h3 h1' h2' h3' h4 h5 hnd hnd2 d12 d13 d23 b1 b2 b3 hr hb0
  go_enter Tryz.func24, Tryz.ntmps24
  go_wp2_with fail
  refine (markEndSS_any _ n.ends k _ base S1 H1.out (by omega)).mono ?_
  rintro e w1 ⟨rfl, o1, t1⟩
  have c1 : w1.cell? ⟨w.heap.size, 1, none⟩ = some (.slice A2 n2 z2) := t1.cell (fun hh => by have := B1.out _ hh; simp at this) (by simp)
  have c2 : w1.cell? ⟨w.heap.size, 2, none⟩ = some (.slice A3 n3 z3) := t1.cell (fun hh => by have := B1.out _ hh; simp at this) (by simp)
  have sz1 : w.heap.size < w1.heap.size := by have := t1.size; simp at this; omega
  have O1 := Lib.hid o1
  have T1 := Lib.hid t1
  have H2a := Lib.hid (lawI.only H2.out t1 (fun j a b => D12.out j b a))
  have H3a := Lib.hid (lawI.only H3.out t1 (fun j a b => D13.out j b a))
  clear o1 t1 H2 H3
  go_wp2_with fail
  refine (markIntS_any _ n.ids (k + cntEE n.ends) _ base H2a.out.1 (by omega)).mono ?_
  rintro e w2 ⟨rfl, o2, g2⟩
  have t2 := Only.of_grown g2
  rw [← H2a.out.2] at t2
  have c3 : w2.cell? ⟨w.heap.size, 2, none⟩ = some (.slice A3 n3 z3) := t2.cell (fun hh => by have := B2.out _ hh; simp at this) c2
  have O2 := Lib.hid (show OwnI w2 base _ _ S2 from ⟨o2, H2a.out.2⟩)
  have T2 := Lib.hid t2
  have O1a := Lib.hid (lawEE.only O1.out t2 D12.out)
  have H3b := Lib.hid (lawI.only H3a.out t2 (fun j a b => D23.out j b a))
  clear o2 g2 t2 O1 H3a c1 c2
  go_wp2_with fail
  refine (markIntS_any _ n.inputs (k + cntEE n.ends + n.ids.length) _ base H3b.out.1 (by omega)).mono ?_
  rintro e w3 ⟨rfl, o3, g3⟩
  have t3 := Only.of_grown g3
  rw [← H3b.out.2] at t3
  have O3 := Lib.hid (show OwnI w3 base _ _ S3 from ⟨o3, H3b.out.2⟩)
  have T3 := Lib.hid t3
  have O1b := Lib.hid (lawEE.only O1a.out t3 D13.out)
  have O2b := Lib.hid (lawI.only O2.out t3 D23.out)
  clear o3 g3 t3 c3
  go_wp2_with fail
  go_ret
  refine ⟨ret_int (by omega), ⟨S1, S2, S3, O1b.out, O2b.out, O3.out, H4.out, H5.out⟩, ?_⟩
  have m1 : ∀ j ∈ S1, j ∈ S := fun j hj => by rw [H4.out]; simp [hj]
  have m2 : ∀ j ∈ S2, j ∈ S := fun j hj => by rw [H4.out]; simp [hj]
  have m3 : ∀ j ∈ S3, j ∈ S := fun j hj => by rw [H4.out]; simp [hj]
  exact (((Only.of_below Hb0.out).trans (T1.out.mono m1)).trans (T2.out.mono m2)).trans (T3.out.mono m3)
def eqEE (x y : List (List (Int × Int))) : Bool := decide (x = y)
theorem eqEndSS_b (v u : Value) (xs ys : List (List (Int × Int))) (w : World) (h : EndSS w v xs) (h' : EndSS w u ys) :
    Calls Tryz.prog 58 #[v, u] w fun e w' => e = .returned (.bool (eqEE xs ys)) ∧ Below w.heap.size w w' := eqEndSS_any v u xs ys w h h'
def eqIs (x y : List Int) : Bool := decide (x = y)
theorem eqIntS_b (v u : Value) (xs ys : List Int) (w : World) (h : IntS w v xs) (h' : IntS w u ys) :
    Calls Tryz.prog 22 #[v, u] w fun e w' => e = .returned (.bool (eqIs xs ys)) ∧ Below w.heap.size w w' := (eqIntS_any v u xs ys w h h').mono fun _ _ ⟨he, m, hm⟩ => ⟨he, by rw [hm]; exact below_drewN (Below.refl _ _) m⟩
set_option maxHeartbeats 1000000 in
theorem eqNetwork_same (ve vi vn ue ui un : Value) (n : Net) (w : World) (h : NetIn w ve vi vn n) (h' : NetIn w ue ui un n) :
    Calls Tryz.prog 23 #[.agg #[ve, vi, vn], .agg #[ue, ui, un]] w fun e w' => e = .returned (.bool true) ∧ Below w.heap.size w w' := by
  have hb0 : Below w.heap.size w ((w.alloc (.cells #[ve, vi, vn] 27)).alloc (.cells #[ue, ui, un] 27)) := ((Below.refl _ _).alloc (Nat.le_refl _) _).alloc (by simp) _
  have e1 : eqEE n.ends n.ends = true := by simp [eqEE]
  have e2 : eqIs n.ids n.ids = true := by simp [eqIs]
  have e3 : eqIs n.inputs n.inputs = true := by simp [eqIs]
  have g := h.keep hb0
  have g' := h'.keep hb0
  have HN := Lib.hid g
  have HN' := Lib.hid g'
  obtain ⟨⟨A1, z1, rfl, _⟩, ⟨A2, z2, rfl, _⟩, ⟨A3, z3, rfl, _⟩⟩ := g
  obtain ⟨⟨C1, y1, rfl, _⟩, ⟨C2, y2, rfl, _⟩, ⟨C3, y3, rfl, _⟩⟩ := g'
  have Hb0 := Lib.hid hb0
  clear h h' hb0
  go_enter Tryz.func23, Tryz.ntmps23
  go_wp2_with fail
  refine (eqEndSS_b _ _ n.ends n.ends _ (by exact HN.out.1) (by exact HN'.out.1)).mono ?_
  rintro e w1 ⟨rfl, hb1⟩
  have c1 : w1.cell? ⟨w.heap.size, 1, none⟩ = some (.slice A2 n.ids.length z2) := bc hb1 (by simp)
  have c2 : w1.cell? ⟨w.heap.size, 2, none⟩ = some (.slice A3 n.inputs.length z3) := bc hb1 (by simp)
  have c3 : w1.cell? ⟨w.heap.size + 1, 1, none⟩ = some (.slice C2 n.ids.length y2) := bc hb1 (by simp)
  have c4 : w1.cell? ⟨w.heap.size + 1, 2, none⟩ = some (.slice C3 n.inputs.length y3) := bc hb1 (by simp)
  have Hb1 := Lib.hid hb1
  have HN1 := Lib.hid (HN.out.keep hb1)
  have HN1' := Lib.hid (HN'.out.keep hb1)
  clear hb1 HN HN'
  go_wp2_with fail
  refine (eqIntS_b _ _ n.ids n.ids _ (by exact HN1.out.2.1) (by exact HN1'.out.2.1)).mono ?_
  rintro e w2 ⟨rfl, hb2⟩
  have c5 := bc hb2 c2
  have c6 := bc hb2 c4
  have Hb2 := Lib.hid hb2
  have HN2 := Lib.hid (HN1.out.keep hb2)
  have HN2' := Lib.hid (HN1'.out.keep hb2)
  clear hb2 HN1 HN1' c1 c2 c3 c4
  go_wp2_with fail
  refine (eqIntS_b _ _ n.inputs n.inputs _ (by exact HN2.out.2.2) (by exact HN2'.out.2.2)).mono ?_
  rintro e w3 ⟨rfl, hb3⟩
  have Hb3 := Lib.hid hb3
  clear hb3 c5 c6
  go_wp2_with fail
  go_ret
  have k1 := Hb0.out.trans (Hb1.out.mono Hb0.out.size)
  have k2 := k1.trans (Hb2.out.mono k1.size)
  exact ⟨rfl, k2.trans (Hb3.out.mono k2.size)⟩
end Go.Proofs.YtfkmkpamdlhbgaaGreat
/-
  DERIVED: THE SHELF's CONTRACTS AT THIS DUMP, IN PLAIN WORDS (tools/lay-plain.mjs out of 'TryzShelf.lean', which tools/lay-shelf.mjs wrote): THE SAME DECLARATIONS UNDER THE SAME NAMES: 'import', 'namespace', 'open', 'def', 'theorem' AND NOTHING ELSE: no command of the shelf's: FOR A HAND-IN. Each laying: the table of numbers ('.._ren') and one theorem, a field a fact of the dump's own or the kernel's comparison; each contract: ONE APPLICATION.
-/
namespace Go.Proofs
open Go.Shelf
def Tryz.lays128_ren : Go.Shelf.Ren := ⟨fun | 128 => 171 | n => n, fun | 51 => 146 | 3 => 3 | 4 => 4 | 46 => 125 | 5 => 5 | 9 => 9 | n => n, fun | n => n⟩
theorem Tryz.lays128 : Go.Proofs.Lays.n128 Tryz.prog Tryz.lays128_ren := {
  mixed := by kernel_rfl
  f128 := Tryz.func171.trans (congrArg some (by kernel_rfl))
  t3 := Tryz.underlying3
  a3 := Tryz.isAgg3
  z3 := Tryz.sizeOf3
  v3 := Tryz.zeroValue3
  t4 := Tryz.underlying4
  a4 := Tryz.isAgg4
  z4 := Tryz.sizeOf4
  v4 := Tryz.zeroValue4
  t5 := Tryz.underlying5
  a5 := Tryz.isAgg5
  z5 := Tryz.sizeOf5
  v5 := Tryz.zeroValue5
  t9 := Tryz.underlying9
  a9 := Tryz.isAgg9
  z9 := Tryz.sizeOf9
  v9 := Tryz.zeroValue9
  t46 := Tryz.underlying125
  a46 := Tryz.isAgg125
  z46 := Tryz.sizeOf125
  v46 := Tryz.zeroValue125
  t51 := Tryz.underlying146
  a51 := Tryz.isAgg146
  z51 := Tryz.sizeOf146
  v51 := Tryz.zeroValue146 }
/-- bits.Len32: "Len32 returns the minimum number of bits required to represent x; the result is 0 for x == 0.": IT RETURNS 'Lib.bitLen x'; the world is as it was. ('h0', 'h1': x is a uint32.) (LAID: no walk: one application.) -/
theorem Tryz.bits_Len32 (x : Int) (w : World) (h0 : 0 ≤ x) (h1 : x ≤ 4294967295) :
    Calls Tryz.prog 171 #[.int .u32 x] w fun e w' => e = .returned (.int .i64 (Lib.bitLen x.toNat)) ∧ w' = w := Any.bits_Len32 Tryz.lays128 x w h0 h1
def Tryz.lays125_ren : Go.Shelf.Ren := ⟨fun | 125 => 152 | 128 => 171 | 129 => 172 | n => n, fun | 46 => 125 | 3 => 3 | 51 => 146 | 53 => 55 | 4 => 4 | 5 => 5 | 9 => 9 | n => n, fun | n => n⟩
theorem Tryz.lays125 : Go.Proofs.Lays.n125 Tryz.prog Tryz.lays125_ren := {
  mixed := by kernel_rfl
  f125 := Tryz.func152.trans (congrArg some (by kernel_rfl))
  f128 := Tryz.func171.trans (congrArg some (by kernel_rfl))
  f129 := Tryz.func172.trans (congrArg some (by kernel_rfl))
  t3 := Tryz.underlying3
  a3 := Tryz.isAgg3
  z3 := Tryz.sizeOf3
  v3 := Tryz.zeroValue3
  t4 := Tryz.underlying4
  a4 := Tryz.isAgg4
  z4 := Tryz.sizeOf4
  v4 := Tryz.zeroValue4
  t5 := Tryz.underlying5
  a5 := Tryz.isAgg5
  z5 := Tryz.sizeOf5
  v5 := Tryz.zeroValue5
  t9 := Tryz.underlying9
  a9 := Tryz.isAgg9
  z9 := Tryz.sizeOf9
  v9 := Tryz.zeroValue9
  t46 := Tryz.underlying125
  a46 := Tryz.isAgg125
  z46 := Tryz.sizeOf125
  v46 := Tryz.zeroValue125
  t51 := Tryz.underlying146
  a51 := Tryz.isAgg146
  z51 := Tryz.sizeOf146
  v51 := Tryz.zeroValue146
  t53 := Tryz.underlying55
  a53 := Tryz.isAgg55
  z53 := Tryz.sizeOf55
  v53 := Tryz.zeroValue55 }
/-- bits.Len: "Len returns the minimum number of bits required to represent x; the result is 0 for x == 0.": IT RETURNS 'Lib.bitLen x'; the world is as it was. (A uint has 64 bits in the model.) ITS CALLEE bits.Len64 IS MET BY ITS OWN CONTRACT OFF THE SHELF (lay that first). (LAID: no walk: one application.) -/
theorem Tryz.bits_Len (x : Int) (w : World) (h0 : 0 ≤ x) (h1 : x ≤ 18446744073709551615) :
    Calls Tryz.prog 152 #[.int .u64 x] w fun e w' => e = .returned (.int .i64 (Lib.bitLen x.toNat)) ∧ w' = w := Any.bits_Len Tryz.lays125 x w h0 h1
def Tryz.lays215_ren : Go.Shelf.Ren := ⟨fun | 215 => 184 | n => n, fun | 3 => 3 | 4 => 4 | n => n, fun | n => n⟩
theorem Tryz.lays215 : Go.Proofs.Lays.n215 Tryz.prog Tryz.lays215_ren := {
  mixed := by kernel_rfl
  f215 := Tryz.func184.trans (congrArg some (by kernel_rfl))
  t3 := Tryz.underlying3
  a3 := Tryz.isAgg3
  z3 := Tryz.sizeOf3
  v3 := Tryz.zeroValue3
  t4 := Tryz.underlying4
  a4 := Tryz.isAgg4
  z4 := Tryz.sizeOf4
  v4 := Tryz.zeroValue4 }
open Go.RowKit in
/-- cmp.isNaN at int: 'x != x': false. (LAID: no walk: one application.) -/
theorem Tryz.cmp_isNaN_int (x : Int) (w : World) :
    Calls Tryz.prog 184 #[.int .i64 x] w fun e w' => e = .returned (.bool false) ∧ w' = w := Any.cmp_isNaN_int Tryz.lays215 x w
def Tryz.lays129_ren : Go.Shelf.Ren := ⟨fun | 129 => 172 | n => n, fun | 53 => 55 | 3 => 3 | 4 => 4 | 46 => 125 | 5 => 5 | 9 => 9 | n => n, fun | n => n⟩
theorem Tryz.lays129 : Go.Proofs.Lays.n129 Tryz.prog Tryz.lays129_ren := {
  mixed := by kernel_rfl
  f129 := Tryz.func172.trans (congrArg some (by kernel_rfl))
  t3 := Tryz.underlying3
  a3 := Tryz.isAgg3
  z3 := Tryz.sizeOf3
  v3 := Tryz.zeroValue3
  t4 := Tryz.underlying4
  a4 := Tryz.isAgg4
  z4 := Tryz.sizeOf4
  v4 := Tryz.zeroValue4
  t5 := Tryz.underlying5
  a5 := Tryz.isAgg5
  z5 := Tryz.sizeOf5
  v5 := Tryz.zeroValue5
  t9 := Tryz.underlying9
  a9 := Tryz.isAgg9
  z9 := Tryz.sizeOf9
  v9 := Tryz.zeroValue9
  t46 := Tryz.underlying125
  a46 := Tryz.isAgg125
  z46 := Tryz.sizeOf125
  v46 := Tryz.zeroValue125
  t53 := Tryz.underlying55
  a53 := Tryz.isAgg55
  z53 := Tryz.sizeOf55
  v53 := Tryz.zeroValue55 }
/-- bits.Len64: "Len64 returns the minimum number of bits required to represent x; the result is 0 for x == 0.": IT RETURNS 'Lib.bitLen x'; the world is as it was. ('h0', 'h1': x is a uint64.) (LAID: no walk: one application.) -/
theorem Tryz.bits_Len64 (x : Int) (w : World) (h0 : 0 ≤ x) (h1 : x ≤ 18446744073709551615) :
    Calls Tryz.prog 172 #[.int .u64 x] w fun e w' => e = .returned (.int .i64 (Lib.bitLen x.toNat)) ∧ w' = w := Any.bits_Len64 Tryz.lays129 x w h0 h1
def Tryz.lays189_ren : Go.Shelf.Ren := ⟨fun | 189 => 121 | 125 => 152 | 257 => 151 | 128 => 171 | 129 => 172 | 294 => 162 | 295 => 163 | 296 => 164 | 297 => 165 | 298 => 166 | 299 => 167 | 216 => 168 | 300 => 169 | 301 => 170 | 328 => 179 | 329 => 180 | 330 => 181 | 331 => 182 | 332 => 183 | 215 => 184 | 343 => 189 | n => n, fun | 28 => 25 | 3 => 3 | 46 => 125 | 0 => 0 | 51 => 146 | 53 => 55 | 4 => 4 | 183 => 154 | 182 => 153 | 131 => 157 | 5 => 5 | 9 => 9 | 218 => 167 | 222 => 171 | 228 => 177 | 229 => 178 | n => n, fun | n => n⟩
theorem Tryz.lays189 : Go.Proofs.Lays.n189 Tryz.prog Tryz.lays189_ren := {
  mixed := by kernel_rfl
  f125 := Tryz.func152.trans (congrArg some (by kernel_rfl))
  f128 := Tryz.func171.trans (congrArg some (by kernel_rfl))
  f129 := Tryz.func172.trans (congrArg some (by kernel_rfl))
  f189 := Tryz.func121.trans (congrArg some (by kernel_rfl))
  f215 := Tryz.func184.trans (congrArg some (by kernel_rfl))
  f216 := Tryz.func168.trans (congrArg some (by kernel_rfl))
  f257 := Tryz.func151.trans (congrArg some (by kernel_rfl))
  f294 := Tryz.func162.trans (congrArg some (by kernel_rfl))
  f295 := Tryz.func163.trans (congrArg some (by kernel_rfl))
  f296 := Tryz.func164.trans (congrArg some (by kernel_rfl))
  f297 := Tryz.func165.trans (congrArg some (by kernel_rfl))
  f298 := Tryz.func166.trans (congrArg some (by kernel_rfl))
  f299 := Tryz.func167.trans (congrArg some (by kernel_rfl))
  f300 := Tryz.func169.trans (congrArg some (by kernel_rfl))
  f301 := Tryz.func170.trans (congrArg some (by kernel_rfl))
  f328 := Tryz.func179.trans (congrArg some (by kernel_rfl))
  f329 := Tryz.func180.trans (congrArg some (by kernel_rfl))
  f330 := Tryz.func181.trans (congrArg some (by kernel_rfl))
  f331 := Tryz.func182.trans (congrArg some (by kernel_rfl))
  f332 := Tryz.func183.trans (congrArg some (by kernel_rfl))
  f343 := Tryz.func189.trans (congrArg some (by kernel_rfl))
  t0 := Tryz.underlying0
  a0 := Tryz.isAgg0
  z0 := Tryz.sizeOf0
  v0 := Tryz.zeroValue0
  t3 := Tryz.underlying3
  a3 := Tryz.isAgg3
  z3 := Tryz.sizeOf3
  v3 := Tryz.zeroValue3
  t4 := Tryz.underlying4
  a4 := Tryz.isAgg4
  z4 := Tryz.sizeOf4
  v4 := Tryz.zeroValue4
  t5 := Tryz.underlying5
  a5 := Tryz.isAgg5
  z5 := Tryz.sizeOf5
  v5 := Tryz.zeroValue5
  t9 := Tryz.underlying9
  a9 := Tryz.isAgg9
  z9 := Tryz.sizeOf9
  v9 := Tryz.zeroValue9
  t28 := Tryz.underlying25
  a28 := Tryz.isAgg25
  z28 := Tryz.sizeOf25
  v28 := Tryz.zeroValue25
  t46 := Tryz.underlying125
  a46 := Tryz.isAgg125
  z46 := Tryz.sizeOf125
  v46 := Tryz.zeroValue125
  t51 := Tryz.underlying146
  a51 := Tryz.isAgg146
  z51 := Tryz.sizeOf146
  v51 := Tryz.zeroValue146
  t53 := Tryz.underlying55
  a53 := Tryz.isAgg55
  z53 := Tryz.sizeOf55
  v53 := Tryz.zeroValue55
  t131 := Tryz.underlying157
  a131 := Tryz.isAgg157
  z131 := Tryz.sizeOf157
  v131 := Tryz.zeroValue157
  t182 := Tryz.underlying153
  a182 := Tryz.isAgg153
  z182 := Tryz.sizeOf153
  v182 := Tryz.zeroValue153
  t183 := Tryz.underlying154
  a183 := Tryz.isAgg154
  z183 := Tryz.sizeOf154
  v183 := Tryz.zeroValue154
  t218 := Tryz.underlying167
  a218 := Tryz.isAgg167
  z218 := Tryz.sizeOf167
  v218 := Tryz.zeroValue167
  t222 := Tryz.underlying171
  a222 := Tryz.isAgg171
  z222 := Tryz.sizeOf171
  v222 := Tryz.zeroValue171
  t228 := Tryz.underlying177
  a228 := Tryz.isAgg177
  z228 := Tryz.sizeOf177
  v228 := Tryz.zeroValue177
  t229 := Tryz.underlying178
  a229 := Tryz.isAgg178
  z229 := Tryz.sizeOf178
  v229 := Tryz.zeroValue178 }
open Go.Sort Go.RowKit in
theorem Tryz.slices_Sort_int (blk off cap : Nat) (zs : List Int) (w : World) (hH : Holds (Value.int .i64) w blk off zs.toArray) (hblk : blk < w.heap.size) (hsz : zs.length < 4611686018427387904) :
    Calls Tryz.prog 121 #[.slice (some ⟨blk, off, none⟩) zs.length cap] w fun e w' =>
      e = .returned (.tuple #[]) ∧ ∃ n os, w' = grow (putRow (Value.int .i64) (Sort.ahead w n) blk off (zs.mergeSort fun x y => decide (x ≤ y)).toArray) os := Any.slices_Sort_int Tryz.lays189 blk off cap zs w hH hblk hsz
def Tryz.lays264_ren : Go.Shelf.Ren := ⟨fun | 264 => 160 | n => n, fun | 53 => 55 | 46 => 125 | n => n, fun | n => n⟩
theorem Tryz.lays264 : Go.Proofs.Lays.n264 Tryz.prog Tryz.lays264_ren := {
  mixed := by kernel_rfl
  f264 := Tryz.func160.trans (congrArg some (by kernel_rfl))
  t46 := Tryz.underlying125
  a46 := Tryz.isAgg125
  z46 := Tryz.sizeOf125
  v46 := Tryz.zeroValue125
  t53 := Tryz.underlying55
  a53 := Tryz.isAgg55
  z53 := Tryz.sizeOf55
  v53 := Tryz.zeroValue55 }
open Go.RowKit Go.Lib in
theorem Tryz.bits_Mul64 (x y : Nat) (hx : x < 18446744073709551616) (hy : y < 18446744073709551616) (w : World) :
    Calls Tryz.prog 160 #[.int .u64 x, .int .u64 y] w fun e w' => e = .returned (.tuple #[.int .u64 ((x * y / 18446744073709551616 : Nat) : Int), .int .u64 ((x * y % 18446744073709551616 : Nat) : Int)]) ∧ w' = w := Any.bits_Mul64 Tryz.lays264 x y hx hy w
def Tryz.lays212_ren : Go.Shelf.Ren := ⟨fun | 212 => 145 | 263 => 159 | 264 => 160 | n => n, fun | 46 => 125 | 51 => 146 | 146 => 147 | 53 => 55 | 148 => 149 | n => n, fun | n => n⟩
theorem Tryz.lays212 : Go.Proofs.Lays.n212 Tryz.prog Tryz.lays212_ren := {
  mixed := by kernel_rfl
  f212 := Tryz.func145.trans (congrArg some (by kernel_rfl))
  f263 := Tryz.func159.trans (congrArg some (by kernel_rfl))
  f264 := Tryz.func160.trans (congrArg some (by kernel_rfl))
  t46 := Tryz.underlying125
  a46 := Tryz.isAgg125
  z46 := Tryz.sizeOf125
  v46 := Tryz.zeroValue125
  t51 := Tryz.underlying146
  a51 := Tryz.isAgg146
  z51 := Tryz.sizeOf146
  v51 := Tryz.zeroValue146
  t53 := Tryz.underlying55
  a53 := Tryz.isAgg55
  z53 := Tryz.sizeOf55
  v53 := Tryz.zeroValue55
  t146 := Tryz.underlying147
  a146 := Tryz.isAgg147
  z146 := Tryz.sizeOf147
  v146 := Tryz.zeroValue147
  t148 := Tryz.underlying149
  a148 := Tryz.isAgg149
  z148 := Tryz.sizeOf149
  v148 := Tryz.zeroValue149 }
open Go.RowKit Go.Lib in
/-- math/bits.Mul: "Mul returns the full-width product of x and y": on a machine of 64 bits: Mul64's. (LAID: no walk: one application.) -/
theorem Tryz.bits_Mul (x y : Nat) (hx : x < 18446744073709551616) (hy : y < 18446744073709551616) (w : World) :
    Calls Tryz.prog 145 #[.int .u64 x, .int .u64 y] w fun e w' => e = .returned (.tuple #[.int .u64 ((x * y / 18446744073709551616 : Nat) : Int), .int .u64 ((x * y % 18446744073709551616 : Nat) : Int)]) ∧ w' = w := Any.bits_Mul Tryz.lays212 x y hx hy w
def Tryz.lays112_ren : Go.Shelf.Ren := ⟨fun | 112 => 175 | n => n, fun | 28 => 25 | 3 => 3 | 4 => 4 | 0 => 0 | n => n, fun | n => n⟩
theorem Tryz.lays112 : Go.Proofs.Lays.n112 Tryz.prog Tryz.lays112_ren := {
  mixed := by kernel_rfl
  f112 := Tryz.func175.trans (congrArg some (by kernel_rfl))
  t0 := Tryz.underlying0
  a0 := Tryz.isAgg0
  z0 := Tryz.sizeOf0
  v0 := Tryz.zeroValue0
  t3 := Tryz.underlying3
  a3 := Tryz.isAgg3
  z3 := Tryz.sizeOf3
  v3 := Tryz.zeroValue3
  t4 := Tryz.underlying4
  a4 := Tryz.isAgg4
  z4 := Tryz.sizeOf4
  v4 := Tryz.zeroValue4
  t28 := Tryz.underlying25
  a28 := Tryz.isAgg25
  z28 := Tryz.sizeOf25
  v28 := Tryz.zeroValue25 }
open Go.RowKit Go.Lib Go.Sort in
/-- slices.Reverse at []int, over an array: Go's loop from the two ends inward is walked; it makes 'Sort.reverseLoop 0 (len - 1)', which is 'Array.reverse' (Derived/Lib/SlicesMore.lean). (LAID: no walk: one application.) -/
theorem Tryz.slices_Reverse_int_arr (blk off cap : Nat) (d : Array Int) (w : World) (hH : Holds encI w blk off d) (hsz : d.size ≤ 9223372036854775807) :
    Calls Tryz.prog 175 #[.slice (some ⟨blk, off, none⟩) d.size cap] w fun e w' => e = .returned (.tuple #[]) ∧ ∃ n, w' = putRow encI (Sort.ahead w n) blk off d.reverse := Any.slices_Reverse_int_arr Tryz.lays112 blk off cap d w hH hsz
open Go.RowKit Go.Lib Go.Sort in
/-- slices.Reverse at []int: "Reverse reverses the elements of the slice in place.": THE SLICE's CELLS HOLD 'zs.reverse' BEHIND THE CALL; all else is as it was, but for the count of draws (the exchange 's[i], s[j] = s[j], s[i]' draws its order, once a round). IN THE WORDS OF slices.Sort's CONTRACT: 'Holds': the cells hold zs and none is frozen; 'putRow': the world with those cells holding another array. A slice of length 0 that is not nil is among them ('zs = []'); nil: '.._nil'. (LAID: no walk: one application.) -/
theorem Tryz.slices_Reverse_int (blk off cap : Nat) (zs : List Int) (w : World) (hH : Holds (Value.int .i64) w blk off zs.toArray) (hsz : zs.length ≤ 9223372036854775807) :
    Calls Tryz.prog 175 #[.slice (some ⟨blk, off, none⟩) zs.length cap] w fun e w' => e = .returned (.tuple #[]) ∧ ∃ n, w' = putRow (Value.int .i64) (Sort.ahead w n) blk off zs.reverse.toArray := Any.slices_Reverse_int Tryz.lays112 blk off cap zs w hH hsz
open Go.RowKit Go.Lib Go.Sort in
/-- The same at a slice of length 0, a nil one too: nothing is read, nothing written, nothing drawn. (LAID: no walk: one application.) -/
theorem Tryz.slices_Reverse_int_empty (a : Option Addr) (cap : Nat) (w : World) :
    Calls Tryz.prog 175 #[.slice a 0 cap] w fun e w' => e = .returned (.tuple #[]) ∧ w' = w := Any.slices_Reverse_int_empty Tryz.lays112 a cap w
def Tryz.laysNm215_ren : Go.Shelf.Ren := ⟨fun | 15 => 71 | n => n, fun | 22 => 25 | 3 => 3 | 4 => 4 | n => n, fun | n => n⟩
theorem Tryz.laysNm215 : Go.Proofs.Lays2.n15 Tryz.prog Tryz.laysNm215_ren := {
  mixed := by kernel_rfl
  f15 := Tryz.func71.trans (congrArg some (by kernel_rfl))
  t3 := Tryz.underlying3
  a3 := Tryz.isAgg3
  z3 := Tryz.sizeOf3
  v3 := Tryz.zeroValue3
  t4 := Tryz.underlying4
  a4 := Tryz.isAgg4
  z4 := Tryz.sizeOf4
  v4 := Tryz.zeroValue4
  t22 := Tryz.underlying25
  a22 := Tryz.isAgg25
  z22 := Tryz.sizeOf25
  v22 := Tryz.zeroValue25
  i3 := by kernel_rfl }
open Go.RowKit Go.Lib in
/-- slices.Clone at []int: "Clone returns a copy of the slice. The elements are copied using assignment, so this is a shallow clone. The result may have additional unused capacity. The result preserves the nilness of s.": OF A SLICE THAT IS NOT nil IT RETURNS A SLICE THAT IS NOT nil, OF THE SAME ELEMENTS, IN MEMORY OF THE CALL's OWN: in the how-to's words (6f): 'w'.ownsRow B e 1 v' n cells': v' begins at the head of a row among the blocks from B on (B: the heap's size at the call), not frozen, whose first cells are the elements · 'Below B w w'': below B all is as it was. The capacity is whatever the run-time gives. 'zs': what the cells behind the slice's address hold; 'zs.take n': its elements. (LAID: no walk: one application.) -/
theorem Tryz.slices_Clone_int (b off n c : Nat) (zs : List Int) (w : World) (hz : n ≤ zs.length) (hbig : n * 8 ≤ 140737488355328) (hc : ∀ j, j < zs.length → w.cell? ⟨b, off + j, none⟩ = some (.int .i64 (zs.getD j 0))) :
    Calls Tryz.prog 71 #[.slice (some ⟨b, off, none⟩) n c] w fun e w' => ∃ v', e = .returned v' ∧ w'.ownsRow w.heap.size 3 1 v' n ((zs.take n).map (Value.int .i64)) ∧ v' ≠ .slice none 0 0 ∧ Below w.heap.size w w' := Any.slices_Clone_int Tryz.laysNm215 b off n c zs w hz hbig hc
open Go.RowKit Go.Lib in
/-- The same at nil: nil comes back; the world is as it was. (LAID: no walk: one application.) -/
theorem Tryz.slices_Clone_int_nil (n c : Nat) (w : World) :
    Calls Tryz.prog 71 #[.slice none n c] w fun e w' => e = .returned (.slice none 0 0) ∧ w' = w := Any.slices_Clone_int_nil Tryz.laysNm215 n c w
open Go.RowKit Go.Lib in
/-- The same at a slice of length 0 that is not nil, WHATEVER ITS ADDRESS (no cell is asked for): a slice that is not nil and owns nothing comes back. (LAID: no walk: one application.) -/
theorem Tryz.slices_Clone_int_zero (a : Addr) (c : Nat) (w : World) :
    Calls Tryz.prog 71 #[.slice (some a) 0 c] w fun e w' => ∃ v', e = .returned v' ∧ w'.ownsRow w.heap.size 3 1 v' 0 [] ∧ v' ≠ .slice none 0 0 ∧ Below w.heap.size w w' := Any.slices_Clone_int_zero Tryz.laysNm215 a c w
def Tryz.laysNm237_ren : Go.Shelf.Ren := ⟨fun | 37 => 184 | n => n, fun | 3 => 3 | 4 => 4 | n => n, fun | n => n⟩
theorem Tryz.laysNm237 : Go.Proofs.Lays2.n37 Tryz.prog Tryz.laysNm237_ren := {
  mixed := by kernel_rfl
  f37 := Tryz.func184.trans (congrArg some (by kernel_rfl))
  t3 := Tryz.underlying3
  a3 := Tryz.isAgg3
  z3 := Tryz.sizeOf3
  v3 := Tryz.zeroValue3
  t4 := Tryz.underlying4
  a4 := Tryz.isAgg4
  z4 := Tryz.sizeOf4
  v4 := Tryz.zeroValue4 }
open Go.RowKit Go.Lib in
/-- cmp.isNaN[int]: 'x != x': false. (LAID: no walk: one application.) -/
theorem Tryz.cmp_isNaN_int2 (x : Int) (w : World) :
    Calls Tryz.prog 184 #[.int .i64 x] w fun e w' => e = .returned (.bool false) ∧ w' = w := Any.cmp_isNaN_int2 Tryz.laysNm237 x w
def Tryz.laysNm231_ren : Go.Shelf.Ren := ⟨fun | 31 => 168 | 37 => 184 | n => n, fun | 3 => 3 | 4 => 4 | n => n, fun | n => n⟩
theorem Tryz.laysNm231 : Go.Proofs.Lays2.n31 Tryz.prog Tryz.laysNm231_ren := {
  mixed := by kernel_rfl
  f31 := Tryz.func168.trans (congrArg some (by kernel_rfl))
  f37 := Tryz.func184.trans (congrArg some (by kernel_rfl))
  t3 := Tryz.underlying3
  a3 := Tryz.isAgg3
  z3 := Tryz.sizeOf3
  v3 := Tryz.zeroValue3
  t4 := Tryz.underlying4
  a4 := Tryz.isAgg4
  z4 := Tryz.sizeOf4
  v4 := Tryz.zeroValue4 }
open Go.RowKit Go.Lib in
/-- cmp.Less[int]: "Less reports whether x is less than y.": 'x < y'; the world is as it was. (LAID: no walk: one application.) -/
theorem Tryz.cmp_Less_int2 (x y : Int) (w : World) :
    Calls Tryz.prog 168 #[.int .i64 x, .int .i64 y] w fun e w' => e = .returned (.bool (decide (x < y))) ∧ w' = w := Any.cmp_Less_int2 Tryz.laysNm231 x y w
open Go.RowKit Go.Lib Go.Sort in
/-- slices.Reverse at []int, of an argument: the n cells hold the elements in reverse. (LAID: no walk: one application.) -/
theorem Tryz.slices_Reverse_int_cells (b off n c : Nat) (zs : List Int) (w : World) (hz : n ≤ zs.length) (hbig : n ≤ 9223372036854775807) (hc : ∀ j, j < zs.length → w.cell? ⟨b, off + j, none⟩ = some (.int .i64 (zs.getD j 0))) (hf : ∀ j, j < n → w.frozen? ⟨b, off + j, none⟩ = false) :
    Calls Tryz.prog 175 #[.slice (some ⟨b, off, none⟩) n c] w fun e w' => e = .returned (.tuple #[]) ∧ ∃ q, w' = (w.drewN q).setCells b off ((zs.take n).reverse.map (Value.int .i64)) := Any.slices_Reverse_int_cells Tryz.lays112 b off n c zs w hz hbig hc hf
open Go.RowKit Go.Sort in
/-- .. and plain. (LAID: no walk: one application.) -/
theorem Tryz.slices_Sort_int_none (p : Option Addr) (cap : Nat) (w : World) :
    Calls Tryz.prog 121 #[.slice p 0 cap] w fun e w' => e = .returned (.tuple #[]) ∧ w' = w := Any.slices_Sort_int_none Tryz.lays189 p cap w
end Go.Proofs
namespace Go.Proofs.YtfkmkpamdlhbgaaGreat
open Go.RowKit Go.Sort
theorem own_put {w : World} {base g c n : Nat} {xs ys : List Int} (h : Own w base (.slice (some ⟨g, 0, none⟩) n c) xs) (hl : ys.length = xs.length) (q : Nat) (os : Array Obj) :
    Own (grow (putRow (Value.int .i64) (Sort.ahead w q) g 0 ys.toArray) os) base (.slice (some ⟨g, 0, none⟩) n c) ys ∧ w.grownBy (grow (putRow (Value.int .i64) (Sort.ahead w q) g 0 ys.toArray) os) (some g) := by
  obtain rfl := h.len
  have hblk := h.blk
  rcases h.2 with ⟨h', _⟩ | ⟨g', cap', cur, h', hb, hg, hnc, hm, hcs, htake⟩
  · simp at h'
  · simp only [Value.slice.injEq, Option.some.injEq, Addr.mk.injEq, and_true, true_and] at h'
    obtain ⟨rfl, rfl⟩ := h'
    have hgg : (grow (putRow (Value.int .i64) (Sort.ahead w q) g 0 ys.toArray) os).heap[g]? = some (.cells (putCells (Value.int .i64) 0 ys.toArray cur) 3 (0, 0)) := by
      show ((w.heap.modify g (onCells (putCells (Value.int .i64) 0 ys.toArray))) ++ os)[g]? = _
      rw [Array.getElem?_append_left (by rw [Array.size_modify]; exact hblk.2), Array.getElem?_modify, if_pos rfl, hg]
      rfl
    refine ⟨⟨by simp, .inr ⟨g, c, putCells (Value.int .i64) 0 ys.toArray cur, by rw [hl], hb, hgg, by omega, hm, by simpa [putCells] using hcs, ?_⟩⟩, ⟨rfl, rfl, rfl, ?_, ?_⟩⟩
    · apply List.ext_getElem?
      intro j
      rw [List.getElem?_take, List.getElem?_map]
      by_cases hj : j < ys.length
      · rw [if_pos (by omega), Array.getElem?_toList]
        have hj2 : j < cur.size := by omega
        simp [putCells, hj, hj2]
      · rw [if_neg (by omega)]
        simp [hj]
    · show w.heap.size ≤ ((w.heap.modify g _) ++ os).size
      rw [Array.size_append, Array.size_modify]; omega
    · intro k hk hne
      show ((w.heap.modify g _) ++ os)[k]? = _
      rw [Array.getElem?_append_left (by rw [Array.size_modify]; exact hk), Array.getElem?_modify, if_neg (fun e => hne (by rw [e]))]
theorem own_holds {w : World} {base g c n : Nat} {xs : List Int} (h : Own w base (.slice (some ⟨g, 0, none⟩) n c) xs) : Holds (Value.int .i64) w g 0 xs.toArray := by
  intro j hj
  have hj' : j < xs.length := by simpa using hj
  rw [Nat.zero_add]
  refine ⟨?_, h.free j⟩
  have : xs[j]? = some (xs.toArray[j]!) := by simp [hj']
  exact h.cell this
theorem sort_any (v : Value) (xs : List Int) (w : World) (base : Nat) (h : Own w base v xs) (hl : xs.length ≤ 17592186044416) :
    Calls Tryz.prog 121 #[v] w fun e w' => e = .returned (.tuple #[]) ∧ Own w' base v (xs.mergeSort fun x y => decide (x ≤ y)) ∧ w.grownBy w' v.ownBlock := by
  rcases h.cases with ⟨rfl, rfl⟩ | ⟨g, c, rfl, hb1, hb2⟩
  · exact (Tryz.slices_Sort_int_none none 0 w).mono fun e w' ⟨he, hw⟩ => ⟨he, by rw [List.mergeSort_nil]; exact hw ▸ h, hw ▸ World.grownBy.refl _ _⟩
  · refine (Tryz.slices_Sort_int g 0 c xs w (own_holds h) hb2 (by omega)).mono fun e w' ⟨he, q, os, hw⟩ => ⟨he, ?_⟩
    subst hw
    exact own_put h (by simp [List.length_mergeSort]) q os
theorem clone_any (v : Value) (xs : List Int) (w : World) (h : IntS w v xs) (hl : xs.length ≤ 17592186044416) :
    Calls Tryz.prog 71 #[v] w fun e w' => ∃ u, e = .returned u ∧ Own w' w.heap.size u xs ∧ Below w.heap.size w w' := by
  obtain ⟨A, c, rfl, hlc, hm, hA⟩ := h
  rcases Nat.eq_zero_or_pos xs.length with h0 | h0
  · obtain rfl : xs = [] := List.eq_nil_of_length_eq_zero h0
    cases A with
    | none => exact (Tryz.slices_Clone_int_nil 0 c w).mono fun e w' ⟨he, hw⟩ => ⟨_, he, World.ownsRow_nil _ _ _ _, hw ▸ Below.refl _ _⟩
    | some a => exact (Tryz.slices_Clone_int_zero a c w).mono fun e w' ⟨u, he, ho, _, hb⟩ => ⟨u, he, ho, hb⟩
  · obtain ⟨x, hx⟩ := getx xs 0 h0
    obtain ⟨b, off, rfl, h1⟩ := hA 0 x hx
    refine (Tryz.slices_Clone_int b off xs.length c xs w (Nat.le_refl _) (by omega) ?_).mono fun e w' ⟨u, he, ho, _, hb⟩ => ⟨u, he, ?_, hb⟩
    · intro j hj
      obtain ⟨y, hy⟩ := getx xs j hj
      obtain ⟨b', off', he, hc⟩ := hA j y hy
      injection he with he
      injection he with e1 e2
      subst e1 e2
      rw [hc]; simp [hy]
    · rw [List.take_length] at ho
      exact ho
end Go.Proofs.YtfkmkpamdlhbgaaGreat
