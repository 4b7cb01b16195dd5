import Derived.Test.YthgbobikbdklhaaRowL
import Derived.Test.YthgbobikbdklhaaNetMark
namespace Go.Proofs.Ythgbobikbdklhaa
open Go.RowKit
/-! rows of acts: four numbers each -/
def encQ (x : Q4) : List Value := [.int .i64 x.1, .int .i64 x.2.1, .int .i64 x.2.2.1, .int .i64 x.2.2.2]
theorem act_info : (Try.prog.info? 64).map (fun i => (i.zero, i.size, i.bytes)) = some (some (.agg #[.int .i64 0, .int .i64 0, .int .i64 0, .int .i64 0]), 4, 32) := by kernel_rfl
def OwnA : World → Nat → Value → List Q4 → List Nat → Prop := LeafR 64 4 encQ
theorem lawA : RowLaw OwnA := leaf_law _ _ _
def ActS (w : World) (v : Value) (xs : List Q4) : Prop :=
  ∃ (A : Option Addr) (c : Nat), v = .slice A xs.length c ∧ xs.length ≤ c ∧ c ≤ maxLen ∧
    (∀ k x, xs[k]? = some x → ∃ b off, A = some ⟨b, off, none⟩ ∧ w.cell? ⟨b, off + k * 4, none⟩ = some (.int .i64 x.1) ∧ w.cell? ⟨b, off + k * 4 + 1, none⟩ = some (.int .i64 x.2.1) ∧ w.cell? ⟨b, off + k * 4 + 2, none⟩ = some (.int .i64 x.2.2.1) ∧ w.cell? ⟨b, off + k * 4 + 3, none⟩ = some (.int .i64 x.2.2.2))
theorem ActS.keep {w w' : World} {v : Value} {xs : List Q4} (h : ActS w v xs) (hb : Below w.heap.size w w') : ActS w' v xs := by
  obtain ⟨A, c, hv, hc, hm, hA⟩ := h
  refine ⟨A, c, hv, hc, hm, fun k x hk => ?_⟩
  obtain ⟨b, off, hA', h1, h2, h3, h4⟩ := hA k x hk
  exact ⟨b, off, hA', bc hb h1, bc hb h2, bc hb h3, bc hb h4⟩
theorem encQ_get {es : List Q4} {k : Nat} {x : Q4} (h : es[k]? = some x) : (es.flatMap encQ)[k * 4]? = some (.int .i64 x.1) ∧ (es.flatMap encQ)[k * 4 + 1]? = some (.int .i64 x.2.1) ∧ (es.flatMap encQ)[k * 4 + 2]? = some (.int .i64 x.2.2.1) ∧ (es.flatMap encQ)[k * 4 + 3]? = some (.int .i64 x.2.2.2) := by
  induction es generalizing k with
  | nil => simp at h
  | cons e es ih =>
    cases k with
    | zero => simp at h; subst h; simp [encQ]
    | succ k =>
      obtain ⟨h0, h1, h2, h3⟩ := ih (k := k) (by simpa using h)
      rw [List.flatMap_cons, show (k + 1) * 4 = k * 4 + 4 by omega]
      have key : ∀ j, (encQ e ++ es.flatMap encQ)[k * 4 + 4 + j]? = (es.flatMap encQ)[k * 4 + j]? := fun j => by
        rw [List.getElem?_append_right (by simp [encQ]; omega)]
        congr 1
        simp [encQ]; omega
      have k0 := key 0
      simp only [Nat.add_zero] at k0
      exact ⟨by rw [k0]; exact h0, by rw [key 1]; exact h1, by rw [key 2]; exact h2, by rw [key 3]; exact h3⟩
theorem encQ_len (es : List Q4) : (es.flatMap encQ).length = es.length * 4 := by
  induction es with
  | nil => rfl
  | cons e es ih => rw [List.flatMap_cons, List.length_append, ih, List.length_cons]; simp [encQ]; omega
theorem encQ_set {es : List Q4} {k : Nat} (x : Q4) (h : k < es.length) : ((((es.flatMap encQ).set (k * 4) (.int .i64 x.1)).set (k * 4 + 1) (.int .i64 x.2.1)).set (k * 4 + 2) (.int .i64 x.2.2.1)).set (k * 4 + 3) (.int .i64 x.2.2.2) = (es.set k x).flatMap encQ := by
  induction es generalizing k with
  | nil => simp at h
  | cons e es ih =>
    cases k with
    | zero => simp [encQ]
    | succ k =>
      have := ih (k := k) (by simpa using h)
      rw [List.flatMap_cons, show (k + 1) * 4 = k * 4 + 1 + 1 + 1 + 1 by omega]
      simp only [encQ, List.cons_append, List.nil_append, List.set_cons_succ, List.flatMap_cons] at this ⊢
      rw [this]
theorem OwnA.read {w : World} {base : Nat} {v : Value} {es : List Q4} {S : List Nat} (h : OwnA w base v es S) : ActS w v es := by
  obtain ⟨h, hS⟩ := h
  rcases ownsRow_cases h with ⟨rfl, h0⟩ | ⟨g, c, rfl, hb, hg, hc, hm⟩
  · obtain rfl : es = [] := List.eq_nil_of_length_eq_zero h0
    exact ⟨none, 0, rfl, Nat.le_refl _, Nat.zero_le _, fun k x hk => by simp at hk⟩
  · refine ⟨_, c, rfl, hc, hm, fun k x hk => ⟨g, 0, rfl, ?_, ?_, ?_, ?_⟩⟩
    all_goals have := lt_of_get hk
    · rw [Nat.zero_add, h.cellAt (cap := c) _ (by omega)]; exact (encQ_get hk).1
    · rw [Nat.zero_add, h.cellAt (cap := c) _ (by omega)]; exact (encQ_get hk).2.1
    · rw [Nat.zero_add, h.cellAt (cap := c) _ (by omega)]; exact (encQ_get hk).2.2.1
    · rw [Nat.zero_add, h.cellAt (cap := c) _ (by omega)]; exact (encQ_get hk).2.2.2
theorem OwnA.cells {w : World} {base g c n : Nat} {es : List Q4} {S : List Nat} (h : OwnA w base (.slice (some ⟨g, 0, none⟩) n c) es S) {k : Nat} {x : Q4} (hx : es[k]? = some x) :
    w.cell? ⟨g, k * 4, none⟩ = some (.int .i64 x.1) ∧ w.cell? ⟨g, k * 4 + 1, none⟩ = some (.int .i64 x.2.1) ∧ w.cell? ⟨g, k * 4 + 2, none⟩ = some (.int .i64 x.2.2.1) ∧ w.cell? ⟨g, k * 4 + 3, none⟩ = some (.int .i64 x.2.2.2) ∧ (∀ j, w.frozen? ⟨g, j, none⟩ = false) := by
  obtain ⟨h, _⟩ := h
  have hn := ownsRow_len h
  subst hn
  have := lt_of_get hx
  exact ⟨by rw [h.cellAt (cap := c) _ (by omega)]; exact (encQ_get hx).1, by rw [h.cellAt (cap := c) _ (by omega)]; exact (encQ_get hx).2.1, by rw [h.cellAt (cap := c) _ (by omega)]; exact (encQ_get hx).2.2.1, by rw [h.cellAt (cap := c) _ (by omega)]; exact (encQ_get hx).2.2.2, fun _ => h.frozenAt _⟩
theorem OwnA.set {w : World} {base g c n : Nat} {es : List Q4} {S : List Nat} (h : OwnA w base (.slice (some ⟨g, 0, none⟩) n c) es S) {k : Nat} (hk : k < es.length) (x : Q4) :
    OwnA ((((w.setCell ⟨g, k * 4, none⟩ (.int .i64 x.1)).setCell ⟨g, k * 4 + 1, none⟩ (.int .i64 x.2.1)).setCell ⟨g, k * 4 + 2, none⟩ (.int .i64 x.2.2.1)).setCell ⟨g, k * 4 + 3, none⟩ (.int .i64 x.2.2.2)) base (.slice (some ⟨g, 0, none⟩) n c) (es.set k x) S := by
  obtain ⟨h, hS⟩ := h
  have hn := ownsRow_len h
  subst hn
  have h1 := (h.stored (k * 4) (.int .i64 x.1)).1
  have h2 := (h1.stored (k * 4 + 1) (.int .i64 x.2.1)).1
  have h3 := (h2.stored (k * 4 + 2) (.int .i64 x.2.2.1)).1
  have h4 := (h3.stored (k * 4 + 3) (.int .i64 x.2.2.2)).1
  rw [encQ_set x hk] at h4
  refine ⟨?_, hS⟩
  rw [List.length_set]
  exact h4
def m4 (k : Nat) : Q4 := ((k : Int), (k : Int) + 1, (k : Int) + 1 + 1, (k : Int) + 1 + 1 + 1)
def mkA (k m : Nat) : List Q4 := (List.range m).map fun i => m4 (k + 4 * i)
theorem mkA_len (k m : Nat) : (mkA k m).length = m := by simp [mkA]
theorem mkA_get {k m j : Nat} (h : j < m) : (mkA k m)[j]? = some (m4 (k + 4 * j)) := by simp [mkA, h]
theorem mkA_set (es : List Q4) (k j : Nat) (h : j < es.length) : (mkA k j ++ es.drop j).set j (m4 (k + 4 * j)) = mkA k (j + 1) ++ es.drop (j + 1) := by
  have hl := mkA_len k j
  rw [List.set_append_right _ _ (by omega), hl, Nat.sub_self, List.drop_eq_getElem_cons h, List.set_cons_zero]
  rw [show mkA k (j + 1) = mkA k j ++ [m4 (k + 4 * j)] by simp [mkA, List.range_succ], List.append_assoc]
  rfl
theorem eqAct_same (a b c d : Int) (w : World) :
    Calls Try.prog 38 #[.agg #[.int .i64 a, .int .i64 b, .int .i64 c, .int .i64 d], .agg #[.int .i64 a, .int .i64 b, .int .i64 c, .int .i64 d]] w fun e w' => e = .returned (.bool true) ∧ Below w.heap.size w w' := by
  go_enter Try.func38, Try.ntmps38
  go_wp2
  go_ret
  exact ⟨rfl, ((Below.refl _ _).alloc (Nat.le_refl _) _).alloc (by simp) _⟩
set_option maxHeartbeats 1000000 in
theorem eqActS_same (v u : Value) (xs : List Q4) (w : World) (h : ActS w v xs) (h' : ActS w u xs) :
    Calls Try.prog 20 #[v, u] w fun e w' => e = .returned (.bool true) ∧ Below w.heap.size w w' := by
  obtain ⟨A, c, rfl, hlc, hm, hA⟩ := h
  obtain ⟨B, d, rfl, hld, hmd, hB⟩ := h'
  unfold maxLen at hm hmd
  have HA := Lib.hid hA
  have HB := Lib.hid hB
  clear hA hB
  go_enter Try.func20, Try.ntmps20
  go_wp2
  go_loopw [5] (fun i wr => ∃ k : Nat, k ≤ xs.length ∧ i = .int .i64 k ∧ Since w wr) (fun i _ => xs.length - (intOf i).toNat)
  case atStart => exact ⟨0, Nat.zero_le _, rfl, since_refl _⟩
  case round =>
    obtain ⟨k, hk, rfl, hbl⟩ := hrel
    by_cases hlt : k < xs.length
    · obtain ⟨x, hx⟩ := getx xs k hlt
      obtain ⟨b, off, rfl, hc1, hc2, hc3, hc4⟩ := HA.out k x hx
      obtain ⟨b', off', rfl, hd1, hd2, hd3, hd4⟩ := HB.out k x hx
      have k1 := have_cell hc1
      have k2 := have_cell hc2
      have k3 := have_cell hc3
      have k4 := have_cell hc4
      have l1 := have_cell hd1
      have l2 := have_cell hd2
      have l3 := have_cell hd3
      have l4 := have_cell hd4
      clear hx hc1 hc2 hc3 hc4 hd1 hd2 hd3 hd4
      go_upto_region 6 with (fail)
      refine wp_region_flow 10 (Since w) (by kernel_rfl) (by kernel_rfl) (by simp) (since_drew hbl) ?_
      simp only [List.take_succ_cons, List.take_zero, List.drop_succ_cons, List.drop_zero]
      refine flow_val (v := ?_) rfl ?_ ?_; rotate_left; (intro W hW; go_simp; with_reducible rfl)
      simp only [Act.put, List.setIfInBounds_toArray, List.set_cons_succ, List.set_cons_zero]
      refine flow_val (v := ?_) rfl ?_ ?_; rotate_left; (intro W hW; go_simp; with_reducible rfl)
      simp only [Act.put, List.setIfInBounds_toArray, List.set_cons_succ, List.set_cons_zero]
      refine flow_val (v := ?_) rfl ?_ ?_; rotate_left; (intro W hW; go_simp; with_reducible rfl)
      simp only [Act.put, List.setIfInBounds_toArray, List.set_cons_succ, List.set_cons_zero]
      refine flow_val (v := ?_) rfl ?_ ?_; rotate_left; (intro W hW; go_simp; with_reducible rfl)
      simp only [Act.put, List.setIfInBounds_toArray, List.set_cons_succ, List.set_cons_zero]
      refine flow_val (v := ?_) rfl ?_ ?_; rotate_left; (intro W hW; go_simp; with_reducible rfl)
      simp only [Act.put, List.setIfInBounds_toArray, List.set_cons_succ, List.set_cons_zero]
      refine flow_val (v := ?_) rfl ?_ ?_; rotate_left; (intro W hW; go_simp; with_reducible rfl)
      simp only [Act.put, List.setIfInBounds_toArray, List.set_cons_succ, List.set_cons_zero]
      refine flow_val (v := ?_) rfl ?_ ?_; rotate_left; (intro W hW; go_simp; with_reducible rfl)
      simp only [Act.put, List.setIfInBounds_toArray, List.set_cons_succ, List.set_cons_zero]
      refine flow_val (v := ?_) rfl ?_ ?_; rotate_left; (intro W hW; go_simp; with_reducible rfl)
      simp only [Act.put, List.setIfInBounds_toArray, List.set_cons_succ, List.set_cons_zero]
      refine flow_op ?_ rfl ?_ ?_; rotate_left; (intro W hW; unfold Gives; go_simp; (with_reducible refine (eqAct_same _ _ _ _ W).mono ?_); rintro e W' ⟨rfl, hb3⟩; first | (refine ⟨?_, Since.trans hW hb3⟩; with_reducible rfl) | (subst hb3; refine ⟨?_, hW⟩; with_reducible rfl))
      simp only [Act.put, List.setIfInBounds_toArray, List.set_cons_succ, List.set_cons_zero]
      refine flow_val (v := ?_) rfl ?_ ?_; rotate_left; (intro W hW; go_simp; with_reducible rfl)
      simp only [Act.put, List.setIfInBounds_toArray, List.set_cons_succ, List.set_cons_zero]
      intro W hW
      have HW := Lib.hid hW
      clear hW hbl
      go_wp2
      go_roundw
      case rel => exact ⟨k + 1, by omega, by go_num, HW.out⟩
      case measure => simp [intOf]; omega
    · have HW := Lib.hid hbl
      obtain rfl : k = xs.length := by omega
      clear hbl
      go_wp2
      go_ret
      exact ⟨rfl, HW.out⟩
set_option maxHeartbeats 2000000 in
theorem markActS_any (v : Value) (es : List Q4) (k : Nat) (w : World) (base : Nat) (S : List Nat) (h : OwnA w base v es S) (hl : k + 4 * es.length ≤ 4611686018427387904) :
    Calls Try.prog 21 #[v, .int .i64 k] w fun e w' => e = .returned (.int .i64 ((k + 4 * es.length : Nat) : Int)) ∧ OwnA w' base v (mkA k es.length) S ∧ Only S w w' := by
  rcases ownsRow_cases h.1 with ⟨rfl, h0⟩ | ⟨g, c, rfl, hb1, hb2, hb3, hb4⟩
  · obtain rfl : es = [] := List.eq_nil_of_length_eq_zero h0
    go_enter Try.func21, Try.ntmps21
    go_wp2
    go_loop [1, 5] (fun m i => m = .int .i64 k ∧ i = .int .i64 0) (fun _ _ => 0)
    case atStart => exact ⟨rfl, rfl⟩
    case round =>
      obtain ⟨rfl, rfl⟩ := hrel
      go_wp2
      go_ret
      exact ⟨ret_int (by simp), h, Only.refl _ _⟩
  · have hgS : g ∈ S := by rw [h.2]; simp [Value.ownBlock]
    have Ho := Lib.hid h
    have HgS := Lib.hid hgS
    clear h hgS
    unfold maxLen at hb4
    go_enter Try.func21, Try.ntmps21
    go_wp2
    go_loopw [1, 5] (fun m i wr => ∃ j : Nat, j ≤ es.length ∧ i = .int .i64 j ∧ m = .int .i64 ((k + 4 * j : Nat) : Int) ∧ OwnA wr base (.slice (some ⟨g, 0, none⟩) es.length c) (mkA k j ++ es.drop j) S ∧ Only S w wr) (fun _ i _ => es.length - (intOf i).toNat)
    case atStart => exact ⟨0, Nat.zero_le _, rfl, rfl, by simpa [mkA] using Ho.out, Only.refl _ _⟩
    case round =>
      obtain ⟨j, hj, rfl, rfl, ho, hg⟩ := hrel
      by_cases hlt : j < es.length
      · obtain ⟨y, hy⟩ := getx (mkA k j ++ es.drop j) j (by simp [mkA_len]; omega)
        obtain ⟨c1, c2, c3, c4, ff⟩ := ho.cells hy
        have f0 := ff (j * 4)
        have f1 := ff (j * 4 + 1)
        have f2 := ff (j * 4 + 2)
        have f3 := ff (j * 4 + 3)
        have Ho1 := Lib.hid ho
        have Hg := Lib.hid hg
        clear hy ho hg ff
        go_wp2
        go_roundw
        case rel =>
          refine ⟨j + 1, by omega, by go_num, by go_num, ?_, ((((Hg.out.setCell (.inl HgS.out) _).setCell (.inl HgS.out) _).setCell (.inl HgS.out) _).setCell (.inl HgS.out) _)⟩
          have := Ho1.out.set (k := j) (by simp [mkA_len]; omega) (m4 (k + 4 * j))
          rw [mkA_set _ _ _ hlt] at this
          simpa [m4] using this
        case measure => simp [intOf]; omega
      · obtain rfl : j = es.length := by omega
        have Ho1 := Lib.hid ho
        have Hg := Lib.hid hg
        clear ho hg
        go_wp2
        go_ret
        exact ⟨ret_int (by simp), by have := Ho1.out; rwa [List.drop_length, List.append_nil] at this, Hg.out⟩
set_option maxHeartbeats 1000000 in
theorem heldActS_any (v : Value) (k n : Nat) (w : World) (h : ActS w v (mkA k n)) (hl : k + 4 * n ≤ 4611686018427387904) :
    Calls Try.prog 22 #[v, .int .i64 k] w fun e w' => e = .returned (.int .i64 ((k + 4 * n : Nat) : Int)) ∧ w = w' := by
  obtain ⟨A, c, rfl, hlc, hm, hA⟩ := h
  rw [mkA_len] at hlc ⊢
  unfold maxLen at hm
  have HA := Lib.hid hA
  clear hA
  go_enter Try.func22, Try.ntmps22
  go_wp2
  go_loop [1, 5] (fun m i => ∃ j : Nat, j ≤ n ∧ i = .int .i64 j ∧ m = .int .i64 ((k + 4 * j : Nat) : Int)) (fun _ i => n - (intOf i).toNat)
  case atStart => exact ⟨0, Nat.zero_le _, rfl, rfl⟩
  case round =>
    obtain ⟨j, hj, rfl, rfl⟩ := hrel
    by_cases hlt : j < n
    · obtain ⟨b, off, rfl, hc1, hc2, hc3, hc4⟩ := HA.out j _ (mkA_get hlt)
      unfold m4 at hc1 hc2 hc3 hc4
      simp only at hc1 hc2 hc3 hc4
      go_wp2
      go_round
      case rel => exact ⟨j + 1, by omega, by go_num, by go_num⟩
      case measure => simp [intOf]; omega
    · obtain rfl : j = n := by omega
      go_wp2
      go_ret
      exact ⟨ret_int (by simp), rfl⟩
/-- append of one act -/
theorem app_act {w w0 : World} {ops : Array Oper} {rest : List Oper} {o : Oper} {a : Act} {Q : Exit → Act → World → Prop} (hgd : o.guard = none) (s x : Operand)
    (ho : o.op = .call { callee := .builtin .append, args := #[s, x], argTypes := #[42, 42] }) {v : Value} {xs : List Q4} (hs : a.eval s = v) (h : ∃ T, OwnA w w0.heap.size v xs T) (b : Nat) (y : Q4)
    (hx : a.eval x = .slice (some ⟨b, 0, none⟩) 1 1) (hc : w.cell? ⟨b, 0, none⟩ = some (.int .i64 y.1)) (hc1 : w.cell? ⟨b, 1, none⟩ = some (.int .i64 y.2.1)) (hc2 : w.cell? ⟨b, 2, none⟩ = some (.int .i64 y.2.2.1)) (hc3 : w.cell? ⟨b, 3, none⟩ = some (.int .i64 y.2.2.2)) (hl : xs.length + 1 ≤ 1000000) (hsn : Since w0 w)
    (k : ∀ g cap w', (∃ T, OwnA w' w0.heap.size (.slice (some ⟨g, 0, none⟩) (xs.length + 1) cap) (xs ++ [y]) T) → Since w0 w' → wpList Try.prog ops Q rest (a.put o.dst (.slice (some ⟨g, 0, none⟩) (xs.length + 1) cap)) w') : wpList Try.prog ops Q (o :: rest) a w := by
  obtain ⟨i0, hi, hz0, hz1, hz2⟩ := info_parts act_info
  obtain ⟨T, h⟩ := h
  refine wpList_append_lies w hgd s x 42 ho w0.heap.size 64 i0 _ 4 32 Try.underlying42 hi hz0 hz1 hz2 rfl (by decide) v xs.length (xs.flatMap encQ) hs h.1 ⟨b, 0, none⟩ 1 1 [.int .i64 y.1, .int .i64 y.2.1, .int .i64 y.2.2.1, .int .i64 y.2.2.2] hx rfl
    (by intro j u hj; match j, hj with | 0, hj => (simp at hj; subst hj; simpa [Addr.add] using hc) | 1, hj => (simp at hj; subst hj; simpa [Addr.add] using hc1) | 2, hj => (simp at hj; subst hj; simpa [Addr.add] using hc2) | 3, hj => (simp at hj; subst hj; simpa [Addr.add] using hc3) | j + 4, hj => simp at hj) (by simp [Value.oneCell']) (by omega) (by unfold maxLen; omega) (by omega) hsn.below.size w.heap.size rfl ?_
  intro g cap w' q1 q2 q3 q4
  refine k g cap w' ⟨_, ⟨?_, rfl⟩⟩ (Below.grown hsn q2 hsn.below.size (fun q hq => (World.ownsRow.lt h.1 q hq).1))
  simpa [encQ] using q1
/-- append of a row of acts to another -/
theorem app_acts {w w0 : World} {ops : Array Oper} {rest : List Oper} {o : Oper} {a : Act} {Q : Exit → Act → World → Prop} (hgd : o.guard = none) (s x : Operand)
    (ho : o.op = .call { callee := .builtin .append, args := #[s, x], argTypes := #[42, 42] }) {v : Value} {xs ys : List Q4} (hs : a.eval s = v) (h : ∃ T, OwnA w w0.heap.size v xs T) (b c : Nat) (hy : ∃ T, OwnA w w0.heap.size (.slice (some ⟨b, 0, none⟩) ys.length c) ys T) (hyp : 0 < ys.length)
    (hx : a.eval x = .slice (some ⟨b, 0, none⟩) ys.length c) (hl : xs.length + ys.length ≤ 1000000) (hsn : Since w0 w)
    (k : ∀ g cap w', (∃ T, OwnA w' w0.heap.size (.slice (some ⟨g, 0, none⟩) (xs.length + ys.length) cap) (xs ++ ys) T) → Only (v.ownBlock.toList) w w' → Since w0 w' → wpList Try.prog ops Q rest (a.put o.dst (.slice (some ⟨g, 0, none⟩) (xs.length + ys.length) cap)) w') : wpList Try.prog ops Q (o :: rest) a w := by
  obtain ⟨i0, hi, hz0, hz1, hz2⟩ := info_parts act_info
  obtain ⟨T, h⟩ := h
  obtain ⟨T2, h2⟩ := hy
  refine wpList_append_lies w hgd s x 42 ho w0.heap.size 64 i0 _ 4 32 Try.underlying42 hi hz0 hz1 hz2 rfl (by decide) v xs.length (xs.flatMap encQ) hs h.1 ⟨b, 0, none⟩ ys.length c (ys.flatMap encQ) hx (encQ_len ys)
    (by intro j u hj; rw [show Addr.add ⟨b, 0, none⟩ j = ⟨b, j, none⟩ by simp [Addr.add, eq_comm], h2.1.cellAt (cap := c) _ (by have := lt_of_get hj; rw [encQ_len] at this; omega)]; exact hj) (by intro u hu; obtain ⟨x, _, hx⟩ := List.mem_flatMap.1 hu; simp [encQ] at hx; rcases hx with rfl | rfl | rfl | rfl <;> rfl) (by omega) (by unfold maxLen; omega) (by omega) hsn.below.size w.heap.size rfl ?_
  intro g cap w' q1 q2 q3 q4
  refine k g cap w' ⟨_, ⟨?_, rfl⟩⟩ (Only.of_grown q2) (Below.grown hsn q2 hsn.below.size (fun q hq => (World.ownsRow.lt h.1 q hq).1))
  rw [List.flatMap_append, List.length_append]
  exact q1
end Go.Proofs.Ythgbobikbdklhaa
