/- Parts of the proof: walks of functions and plain laws. -/
import Derived.Test.YtomnaabadohecaaGreatP3
import Derived.Test.YtomnaabadohecaaGreatP6
import Derived.Test.YtomnaabadohecaaGreatP8
import Derived.WalkSpells
import Derived.Test.YtomnaabadohecaaGreatP10
import Derived.Test.YtomnaabadohecaaGreatP9
import Derived.Test.YtomnaabadohecaaGreatP0
namespace Go.Proofs.YtomnaabadohecaaGreat
open Go.RowKit
/-! what copies of networks need -/
theorem tflow_alloc {P : Program} {ops : Array Oper} {w0 : World} {fin : Act → World → Prop} {o : Oper} {rest : List Oper} {A : Act} {W : World} {ob : Obj} {v : Value} (hw : Region.wanted o (yielded ops A.tmps) = true) (h : (execOp A.eval o).run P W = .ok (.value v) (W.alloc ob)) (hS : Since w0 W)
    (hr : ∀ W', W' = W.alloc ob → Since w0 W' → TFlow P ops (Since w0) fin rest (A.put o.dst v) W') : TFlow P ops (Since w0) fin (o :: rest) A W :=
  tflow_new hw h (since_alloc _ hS) (hr _ rfl (since_alloc _ hS))
/-- a box of a network, its type too -/
def BoxN (W : World) (b : Nat) (x y z : Value) : Prop := W.heap[b]? = some (.cells #[x, y, z] 43)
theorem BoxN.box {W : World} {b : Nat} {x y z : Value} (h : BoxN W b x y z) : Box3 W b x y z := ⟨_, h⟩
theorem BoxN.lt {W : World} {b : Nat} {x y z : Value} (h : BoxN W b x y z) : b < W.heap.size := (Array.getElem?_eq_some_iff.1 h).1
theorem BoxN.since {W W' : World} {b : Nat} {x y z : Value} (h : BoxN W b x y z) (hs : Since W W') : BoxN W' b x y z := (hs.block b h.lt).trans h
def NewB (W : World) (B : Nat) (u : Value) : Prop := ∃ b, u = .pointer (some ⟨b, 0, none⟩) ∧ B ≤ b ∧ BoxN W b (.slice none 0 0) (.slice none 0 0) (.slice none 0 0)
theorem NewB.keep {W W' : World} {B : Nat} {u : Value} (h : NewB W B u) (hs : Since W W') : NewB W' B u := by
  obtain ⟨b, h1, h2, h3⟩ := h
  exact ⟨b, h1, h2, h3.since hs⟩
theorem NewB.new (W : World) {B : Nat} (h : B ≤ W.heap.size) : NewB (W.alloc (.cells #[.slice none 0 0, .slice none 0 0, .slice none 0 0] 43)) B (.pointer (some ⟨W.heap.size, 0, none⟩)) :=
  ⟨_, rfl, h, by show (W.heap.push _)[W.heap.size]? = _; rw [Array.getElem?_push_size]⟩
def NewRows (W : World) (B n : Nat) (u : Value) : Prop := ∃ g, u = .slice (some ⟨g, 0, none⟩) n n ∧ B ≤ g ∧ OwnEE W B (.slice (some ⟨g, 0, none⟩) n n) (List.replicate n []) [g]
theorem NewRows.keep {W W' : World} {B n : Nat} {u : Value} (h : NewRows W B n u) (hs : Since W W') : NewRows W' B n u := by
  obtain ⟨g, h1, h2, h3⟩ := h
  exact ⟨g, h1, h2, lawEE.keep h3 hs.below⟩
theorem BoxN.only {S : List Nat} {W W' : World} {b : Nat} {x y z : Value} (h : BoxN W b x y z) (ho : Only S W W') (hb : b ∉ S) : BoxN W' b x y z := (ho.block b h.lt hb).trans h
theorem BoxN.put0 {W : World} {b : Nat} {x y z : Value} (h : BoxN W b x y z) (u : Value) : BoxN (W.setCell ⟨b, 0, none⟩ u) b u y z := by
  unfold BoxN at h ⊢
  simp [World.setCell, Array.getElem?_modify, h]
theorem BoxN.put1 {W : World} {b : Nat} {x y z : Value} (h : BoxN W b x y z) (u : Value) : BoxN (W.setCell ⟨b, 1, none⟩ u) b x u z := by
  unfold BoxN at h ⊢
  simp [World.setCell, Array.getElem?_modify, h]
theorem app_zeroI {w : World} {ops : Array Oper} {rest : List Oper} {o : Oper} {a : Act} {Q : Exit → Act → World → Prop} (hgd : o.guard = none) (s x : Operand)
    (ho : o.op = .call { callee := .builtin .append, args := #[s, x], argTypes := #[24, 24] }) {base : Nat} {v : Value} {xs : List Int} (hs : a.eval s = v) (h : Own w base v xs) (A : Option Addr) (c : Nat) (hx : a.eval x = .slice A 0 c)
    (k : wpList Tryz.prog ops Q rest (a.put o.dst v) w) : wpList Tryz.prog ops Q (o :: rest) a w := by
  obtain ⟨i0, hi, hz0, hz1, hz2⟩ := info_parts int_info
  refine wpList_plain hgd fun K hK => ?_
  have hrun : (Builtin.append_ #[24, 24] o.type #[v, .slice A 0 c]).run Tryz.prog w = .ok v w := by
    rcases h.2 with ⟨rfl, hx0⟩ | ⟨g, cap, cur, rfl, _, _, hnc, _⟩
    · cases A <;> simp [Builtin.append_, run_underlying Tryz.underlying24, sizeOf, typeInfo, hi, Builtin.lenOf, Builtin.firstCells, loadCells, loadCellsFrom, Result.andThen]
    · cases A <;> simp [Builtin.append_, run_underlying Tryz.underlying24, sizeOf, typeInfo, hi, Builtin.lenOf, Builtin.firstCells, hnc, storeCells, loadCells, loadCellsFrom, Result.andThen]
  unfold Oper.wp
  simp [execOp, ho, resolve, invoke, builtin, hs, hx, hrun, Result.andThen]
  exact hK _ _ k
set_option maxHeartbeats 1000000 in
theorem l1Own_all (v : Value) (xs : List Int) (w : World) (h : IntS w v xs) (hl : xs.length ≤ 17592186044416) :
    Calls Tryz.prog 171 #[v] w fun e w' => ∃ u, e = .returned u ∧ Own w' w.heap.size u xs ∧ Below w.heap.size w w' := by
  rcases Nat.eq_zero_or_pos xs.length with h0 | h0
  · obtain rfl : xs = [] := List.eq_nil_of_length_eq_zero h0
    obtain ⟨A, c, rfl, hlc, hm, _⟩ := h
    have ho := own_lit w [] (by simp [maxLen])
    simp only [List.map_nil, List.length_nil] at ho
    have Ho := Lib.hid ho
    clear ho
    go_enter Tryz.func171, Tryz.ntmps171
    go_wp2_with (at_builtin; refine app_zeroI rfl _ _ rfl rfl Ho.out A c rfl ?_)
    go_wp2
    go_ret
    exact ⟨_, rfl, Ho.out, below_alloc _ _⟩
  · exact l1Own_any v xs w h h0 hl
end Go.Proofs.YtomnaabadohecaaGreat
namespace Go.Proofs.YtomnaabadohecaaGreat
open Go.RowKit
/-! problems -/
theorem within_p (n lo hi : Int) (w : World) : Calls Tryz.prog 99 #[.int .i64 n, .int .i64 lo, .int .i64 hi] w fun e w' => e = .returned (.bool (inB lo hi n)) ∧ Below w.heap.size w w' := (within_b n lo hi w).mono fun _ _ ⟨h1, h2⟩ => ⟨h1, h2 ▸ Below.refl _ _⟩
theorem l1In_p (n lo hi : Int) (w : World) : Calls Tryz.prog 107 #[.int .i64 n, .int .i64 lo, .int .i64 hi] w fun e w' => e = .returned (.bool (inB lo hi n)) ∧ Below w.heap.size w w' := (l1In_b n lo hi w).mono fun _ _ ⟨h1, h2⟩ => ⟨h1, h2 ▸ Below.refl _ _⟩
theorem andL {a b : Bool} (h : (a && b) = true) : a = true := by simp at h; exact h.1
theorem andR {a b : Bool} (h : (a && b) = true) : b = true := by simp at h; exact h.2
theorem prOk_eq (p : Prob) : prOk p = (inB 1 8 p.labels && inB 1 4 p.degree && cfgs p.nodes p.degree p.labels && cfgs p.edges 2 p.labels) := by unfold prOk; simp only [Bool.and_assoc]
set_option maxHeartbeats 4000000 in
theorem isProblem_any (a b : Value) (p : Prob) (w : World) (h : PrIn w a b p) : Calls Tryz.prog 98 #[.agg #[.int .i64 p.labels, .int .i64 p.degree, a, b]] w fun e w' => e = .returned (.bool (prOk p)) ∧ Below w.heap.size w w' := by
  obtain ⟨w0, hw0⟩ : ∃ w0, w0 = (w).alloc (.cells #[.int .i64 p.labels, .int .i64 p.degree, a, b] 74) := ⟨_, rfl⟩
  have hb0 : Below w.heap.size w w0 := by rw [hw0]; exact ((Below.refl _ _).alloc (by simp) _)
  have hkP := h.keep hb0
  have HP := Lib.hid hkP
  obtain ⟨P0, pz0, rfl, hlP0, hmP0, hPe0⟩ := id hkP.1
  unfold maxLen at hmP0
  have HPe0 := Lib.hid hPe0
  clear hPe0
  obtain ⟨P1, pz1, rfl, hlP1, hmP1, hPe1⟩ := id hkP.2
  unfold maxLen at hmP1
  have HPe1 := Lib.hid hPe1
  clear hPe1
  clear hkP h
  have p00 : ∀ W, Since w0 W → W.cell? ⟨w.heap.size, 0, none⟩ = some (.int .i64 p.labels) := have_cell (by rw [hw0]; simp)
  have p01 : ∀ W, Since w0 W → W.cell? ⟨w.heap.size, 1, none⟩ = some (.int .i64 p.degree) := have_cell (by rw [hw0]; simp)
  have p02 : ∀ W, Since w0 W → W.cell? ⟨w.heap.size, 2, none⟩ = some (.slice P0 p.nodes.length pz0) := have_cell (by rw [hw0]; simp)
  have p03 : ∀ W, Since w0 W → W.cell? ⟨w.heap.size, 3, none⟩ = some (.slice P1 p.edges.length pz1) := have_cell (by rw [hw0]; simp)
  have Hb0 := Lib.hid hb0
  have Hw0 := Lib.hid hw0
  clear hb0 hw0
  have HPp0 := Lib.hid (show ∀ X, Since w0 X → IntSS X (.slice P0 p.nodes.length pz0) p.nodes from fun X hX => (HP.out.keep hX).1)
  have HPp1 := Lib.hid (show ∀ X, Since w0 X → IntSS X (.slice P1 p.edges.length pz1) p.edges from fun X hX => (HP.out.keep hX).2)
  go_enter Tryz.func98, Tryz.ntmps98
  go_upto_region 1 with (fail)
  rw [← Hw0.out]
  refine wp_region_flow0 25 (Since w0) (since_refl _) ?_
  simp only [List.take_succ_cons, List.take_zero, List.drop_succ_cons, List.drop_zero]
  refine flow_val (v := ?_) rfl ?_ ?_; rotate_left; (intro W hW; go_simp; with_reducible rfl)
  simp only [Act.put, List.setIfInBounds_toArray, List.set_cons_succ, List.set_cons_zero]
  refine flow_val (v := ?_) rfl ?_ ?_; rotate_left; (intro W hW; go_simp; with_reducible rfl)
  simp only [Act.put, List.setIfInBounds_toArray, List.set_cons_succ, List.set_cons_zero]
  refine flow_op ?_ rfl ?_ ?_; rotate_left; (intro W hW; unfold Gives; go_simp; (with_reducible refine (within_p _ _ _ W).mono ?_); rintro e W' ⟨rfl, hb3⟩; first | (refine ⟨?_, Since.trans hW hb3⟩; with_reducible rfl) | (subst hb3; refine ⟨?_, hW⟩; with_reducible rfl))
  simp only [Act.put, List.setIfInBounds_toArray, List.set_cons_succ, List.set_cons_zero]
  refine flow_val (v := ?_) rfl ?_ ?_; rotate_left; (intro W hW; go_simp; with_reducible rfl)
  simp only [Act.put, List.setIfInBounds_toArray, List.set_cons_succ, List.set_cons_zero]
  refine flow_gval (v := ?_) rfl rfl ?_ ?_; rotate_left; (intro hb; intro W hW; go_simp; with_reducible rfl)
  simp only [Act.put, List.setIfInBounds_toArray, List.set_cons_succ, List.set_cons_zero]
  refine flow_gval (v := ?_) rfl rfl ?_ ?_; rotate_left; (intro hb; intro W hW; go_simp; with_reducible rfl)
  simp only [Act.put, List.setIfInBounds_toArray, List.set_cons_succ, List.set_cons_zero]
  refine flow_gop (v := ?_) rfl rfl ?_ ?_; rotate_left; (intro hb; intro W hW; unfold Gives; go_simp; (with_reducible refine (within_p _ _ _ W).mono ?_); rintro e W' ⟨rfl, hb3⟩; first | (refine ⟨?_, Since.trans hW hb3⟩; with_reducible rfl) | (subst hb3; refine ⟨?_, hW⟩; with_reducible rfl))
  simp only [Act.put, List.setIfInBounds_toArray, List.set_cons_succ, List.set_cons_zero]
  first | refine flow_and rfl rfl ?_ | (refine flow_val (v := ?_) rfl ?_ ?_; rotate_left; (intro W hW; go_simp; with_reducible rfl))
  simp only [Act.put, List.setIfInBounds_toArray, List.set_cons_succ, List.set_cons_zero]
  refine flow_val (v := ?_) rfl ?_ ?_; rotate_left; (intro W hW; go_simp; with_reducible rfl)
  simp only [Act.put, List.setIfInBounds_toArray, List.set_cons_succ, List.set_cons_zero]
  refine flow_gval (v := ?_) rfl rfl ?_ ?_; rotate_left; (intro hb; intro W hW; go_simp; with_reducible rfl)
  simp only [Act.put, List.setIfInBounds_toArray, List.set_cons_succ, List.set_cons_zero]
  refine flow_gval (v := ?_) rfl rfl ?_ ?_; rotate_left; (intro hb; intro W hW; go_simp; with_reducible rfl)
  simp only [Act.put, List.setIfInBounds_toArray, List.set_cons_succ, List.set_cons_zero]
  refine flow_gval (v := ?_) rfl rfl ?_ ?_; rotate_left; (intro hb; intro W hW; go_simp; with_reducible rfl)
  simp only [Act.put, List.setIfInBounds_toArray, List.set_cons_succ, List.set_cons_zero]
  refine flow_gval (v := ?_) rfl rfl ?_ ?_; rotate_left; (intro hb; intro W hW; go_simp; with_reducible rfl)
  simp only [Act.put, List.setIfInBounds_toArray, List.set_cons_succ, List.set_cons_zero]
  refine flow_gval (v := ?_) rfl rfl ?_ ?_; rotate_left; (intro hb; intro W hW; go_simp; with_reducible rfl)
  simp only [Act.put, List.setIfInBounds_toArray, List.set_cons_succ, List.set_cons_zero]
  refine flow_gval (v := ?_) rfl rfl ?_ ?_; rotate_left; (intro hb; intro W hW; go_simp; with_reducible rfl)
  simp only [Act.put, List.setIfInBounds_toArray, List.set_cons_succ, List.set_cons_zero]
  refine flow_gop (v := ?_) rfl rfl ?_ ?_; rotate_left; (intro hb; intro W hW; unfold Gives; go_simp; (with_reducible refine (configurationsOk_any _ p.nodes p.degree p.labels W (HPp0.out W hW) (inB_iff.1 (andL hb))).mono ?_); rintro e W' ⟨rfl, hb3⟩; first | (refine ⟨?_, Since.trans hW hb3⟩; with_reducible rfl) | (subst hb3; refine ⟨?_, hW⟩; with_reducible rfl))
  simp only [Act.put, List.setIfInBounds_toArray, List.set_cons_succ, List.set_cons_zero]
  first | refine flow_and rfl rfl ?_ | (refine flow_val (v := ?_) rfl ?_ ?_; rotate_left; (intro W hW; go_simp; with_reducible rfl))
  simp only [Act.put, List.setIfInBounds_toArray, List.set_cons_succ, List.set_cons_zero]
  refine flow_val (v := ?_) rfl ?_ ?_; rotate_left; (intro W hW; go_simp; with_reducible rfl)
  simp only [Act.put, List.setIfInBounds_toArray, List.set_cons_succ, List.set_cons_zero]
  refine flow_gval (v := ?_) rfl rfl ?_ ?_; rotate_left; (intro hb; intro W hW; go_simp; with_reducible rfl)
  simp only [Act.put, List.setIfInBounds_toArray, List.set_cons_succ, List.set_cons_zero]
  refine flow_gval (v := ?_) rfl rfl ?_ ?_; rotate_left; (intro hb; intro W hW; go_simp; with_reducible rfl)
  simp only [Act.put, List.setIfInBounds_toArray, List.set_cons_succ, List.set_cons_zero]
  refine flow_gval (v := ?_) rfl rfl ?_ ?_; rotate_left; (intro hb; intro W hW; go_simp; with_reducible rfl)
  simp only [Act.put, List.setIfInBounds_toArray, List.set_cons_succ, List.set_cons_zero]
  refine flow_gval (v := ?_) rfl rfl ?_ ?_; rotate_left; (intro hb; intro W hW; go_simp; with_reducible rfl)
  simp only [Act.put, List.setIfInBounds_toArray, List.set_cons_succ, List.set_cons_zero]
  refine flow_gop (v := ?_) rfl rfl ?_ ?_; rotate_left; (intro hb; intro W hW; unfold Gives; go_simp; (with_reducible refine (configurationsOk_any _ p.edges 2 p.labels W (HPp1.out W hW) (inB_iff.1 (andL (andL hb)))).mono ?_); rintro e W' ⟨rfl, hb3⟩; first | (refine ⟨?_, Since.trans hW hb3⟩; with_reducible rfl) | (subst hb3; refine ⟨?_, hW⟩; with_reducible rfl))
  simp only [Act.put, List.setIfInBounds_toArray, List.set_cons_succ, List.set_cons_zero]
  first | refine flow_and rfl rfl ?_ | (refine flow_val (v := ?_) rfl ?_ ?_; rotate_left; (intro W hW; go_simp; with_reducible rfl))
  simp only [Act.put, List.setIfInBounds_toArray, List.set_cons_succ, List.set_cons_zero]
  refine flow_val (v := ?_) rfl ?_ ?_; rotate_left; (intro W hW; go_simp; with_reducible rfl)
  simp only [Act.put, List.setIfInBounds_toArray, List.set_cons_succ, List.set_cons_zero]
  intro W5 hW5
  have HW5 := Lib.hid (Since.after Hb0.out hW5)
  clear hW5
  have hr := Lib.hid (prOk_eq p)
  go_wp2
  go_ret
  exact ⟨ret_bool hr.out.symm, HW5.out⟩
set_option maxHeartbeats 4000000 in
theorem prGood_any (a b : Value) (p : Prob) (w : World) (h : PrIn w a b p) : Calls Tryz.prog 93 #[.agg #[.int .i64 p.labels, .int .i64 p.degree, a, b]] w fun e w' => e = .returned (.bool (prOk p)) ∧ Below w.heap.size w w' := by
  obtain ⟨w0, hw0⟩ : ∃ w0, w0 = (w).alloc (.cells #[.int .i64 p.labels, .int .i64 p.degree, a, b] 74) := ⟨_, rfl⟩
  have hb0 : Below w.heap.size w w0 := by rw [hw0]; exact ((Below.refl _ _).alloc (by simp) _)
  have hkP := h.keep hb0
  have HP := Lib.hid hkP
  obtain ⟨P0, pz0, rfl, hlP0, hmP0, hPe0⟩ := id hkP.1
  unfold maxLen at hmP0
  have HPe0 := Lib.hid hPe0
  clear hPe0
  obtain ⟨P1, pz1, rfl, hlP1, hmP1, hPe1⟩ := id hkP.2
  unfold maxLen at hmP1
  have HPe1 := Lib.hid hPe1
  clear hPe1
  clear hkP h
  have p00 : ∀ W, Since w0 W → W.cell? ⟨w.heap.size, 0, none⟩ = some (.int .i64 p.labels) := have_cell (by rw [hw0]; simp)
  have p01 : ∀ W, Since w0 W → W.cell? ⟨w.heap.size, 1, none⟩ = some (.int .i64 p.degree) := have_cell (by rw [hw0]; simp)
  have p02 : ∀ W, Since w0 W → W.cell? ⟨w.heap.size, 2, none⟩ = some (.slice P0 p.nodes.length pz0) := have_cell (by rw [hw0]; simp)
  have p03 : ∀ W, Since w0 W → W.cell? ⟨w.heap.size, 3, none⟩ = some (.slice P1 p.edges.length pz1) := have_cell (by rw [hw0]; simp)
  have Hb0 := Lib.hid hb0
  have Hw0 := Lib.hid hw0
  clear hb0 hw0
  have HPp0 := Lib.hid (show ∀ X, Since w0 X → IntSS X (.slice P0 p.nodes.length pz0) p.nodes from fun X hX => (HP.out.keep hX).1)
  have HPp1 := Lib.hid (show ∀ X, Since w0 X → IntSS X (.slice P1 p.edges.length pz1) p.edges from fun X hX => (HP.out.keep hX).2)
  go_enter Tryz.func93, Tryz.ntmps93
  go_upto_region 1 with (fail)
  rw [← Hw0.out]
  refine wp_region_flow0 25 (Since w0) (since_refl _) ?_
  simp only [List.take_succ_cons, List.take_zero, List.drop_succ_cons, List.drop_zero]
  refine flow_val (v := ?_) rfl ?_ ?_; rotate_left; (intro W hW; go_simp; with_reducible rfl)
  simp only [Act.put, List.setIfInBounds_toArray, List.set_cons_succ, List.set_cons_zero]
  refine flow_val (v := ?_) rfl ?_ ?_; rotate_left; (intro W hW; go_simp; with_reducible rfl)
  simp only [Act.put, List.setIfInBounds_toArray, List.set_cons_succ, List.set_cons_zero]
  refine flow_op ?_ rfl ?_ ?_; rotate_left; (intro W hW; unfold Gives; go_simp; (with_reducible refine (l1In_p _ _ _ W).mono ?_); rintro e W' ⟨rfl, hb3⟩; first | (refine ⟨?_, Since.trans hW hb3⟩; with_reducible rfl) | (subst hb3; refine ⟨?_, hW⟩; with_reducible rfl))
  simp only [Act.put, List.setIfInBounds_toArray, List.set_cons_succ, List.set_cons_zero]
  refine flow_val (v := ?_) rfl ?_ ?_; rotate_left; (intro W hW; go_simp; with_reducible rfl)
  simp only [Act.put, List.setIfInBounds_toArray, List.set_cons_succ, List.set_cons_zero]
  refine flow_gval (v := ?_) rfl rfl ?_ ?_; rotate_left; (intro hb; intro W hW; go_simp; with_reducible rfl)
  simp only [Act.put, List.setIfInBounds_toArray, List.set_cons_succ, List.set_cons_zero]
  refine flow_gval (v := ?_) rfl rfl ?_ ?_; rotate_left; (intro hb; intro W hW; go_simp; with_reducible rfl)
  simp only [Act.put, List.setIfInBounds_toArray, List.set_cons_succ, List.set_cons_zero]
  refine flow_gop (v := ?_) rfl rfl ?_ ?_; rotate_left; (intro hb; intro W hW; unfold Gives; go_simp; (with_reducible refine (l1In_p _ _ _ W).mono ?_); rintro e W' ⟨rfl, hb3⟩; first | (refine ⟨?_, Since.trans hW hb3⟩; with_reducible rfl) | (subst hb3; refine ⟨?_, hW⟩; with_reducible rfl))
  simp only [Act.put, List.setIfInBounds_toArray, List.set_cons_succ, List.set_cons_zero]
  first | refine flow_and rfl rfl ?_ | (refine flow_val (v := ?_) rfl ?_ ?_; rotate_left; (intro W hW; go_simp; with_reducible rfl))
  simp only [Act.put, List.setIfInBounds_toArray, List.set_cons_succ, List.set_cons_zero]
  refine flow_val (v := ?_) rfl ?_ ?_; rotate_left; (intro W hW; go_simp; with_reducible rfl)
  simp only [Act.put, List.setIfInBounds_toArray, List.set_cons_succ, List.set_cons_zero]
  refine flow_gval (v := ?_) rfl rfl ?_ ?_; rotate_left; (intro hb; intro W hW; go_simp; with_reducible rfl)
  simp only [Act.put, List.setIfInBounds_toArray, List.set_cons_succ, List.set_cons_zero]
  refine flow_gval (v := ?_) rfl rfl ?_ ?_; rotate_left; (intro hb; intro W hW; go_simp; with_reducible rfl)
  simp only [Act.put, List.setIfInBounds_toArray, List.set_cons_succ, List.set_cons_zero]
  refine flow_gval (v := ?_) rfl rfl ?_ ?_; rotate_left; (intro hb; intro W hW; go_simp; with_reducible rfl)
  simp only [Act.put, List.setIfInBounds_toArray, List.set_cons_succ, List.set_cons_zero]
  refine flow_gval (v := ?_) rfl rfl ?_ ?_; rotate_left; (intro hb; intro W hW; go_simp; with_reducible rfl)
  simp only [Act.put, List.setIfInBounds_toArray, List.set_cons_succ, List.set_cons_zero]
  refine flow_gval (v := ?_) rfl rfl ?_ ?_; rotate_left; (intro hb; intro W hW; go_simp; with_reducible rfl)
  simp only [Act.put, List.setIfInBounds_toArray, List.set_cons_succ, List.set_cons_zero]
  refine flow_gval (v := ?_) rfl rfl ?_ ?_; rotate_left; (intro hb; intro W hW; go_simp; with_reducible rfl)
  simp only [Act.put, List.setIfInBounds_toArray, List.set_cons_succ, List.set_cons_zero]
  refine flow_gop (v := ?_) rfl rfl ?_ ?_; rotate_left; (intro hb; intro W hW; unfold Gives; go_simp; (with_reducible refine (prLists_any _ p.nodes p.degree p.labels W (HPp0.out W hW) (inB_iff.1 (andR hb)) (inB_iff.1 (andL hb))).mono ?_); rintro e W' ⟨rfl, hb3⟩; first | (refine ⟨?_, Since.trans hW hb3⟩; with_reducible rfl) | (subst hb3; refine ⟨?_, hW⟩; with_reducible rfl))
  simp only [Act.put, List.setIfInBounds_toArray, List.set_cons_succ, List.set_cons_zero]
  first | refine flow_and rfl rfl ?_ | (refine flow_val (v := ?_) rfl ?_ ?_; rotate_left; (intro W hW; go_simp; with_reducible rfl))
  simp only [Act.put, List.setIfInBounds_toArray, List.set_cons_succ, List.set_cons_zero]
  refine flow_val (v := ?_) rfl ?_ ?_; rotate_left; (intro W hW; go_simp; with_reducible rfl)
  simp only [Act.put, List.setIfInBounds_toArray, List.set_cons_succ, List.set_cons_zero]
  refine flow_gval (v := ?_) rfl rfl ?_ ?_; rotate_left; (intro hb; intro W hW; go_simp; with_reducible rfl)
  simp only [Act.put, List.setIfInBounds_toArray, List.set_cons_succ, List.set_cons_zero]
  refine flow_gval (v := ?_) rfl rfl ?_ ?_; rotate_left; (intro hb; intro W hW; go_simp; with_reducible rfl)
  simp only [Act.put, List.setIfInBounds_toArray, List.set_cons_succ, List.set_cons_zero]
  refine flow_gval (v := ?_) rfl rfl ?_ ?_; rotate_left; (intro hb; intro W hW; go_simp; with_reducible rfl)
  simp only [Act.put, List.setIfInBounds_toArray, List.set_cons_succ, List.set_cons_zero]
  refine flow_gval (v := ?_) rfl rfl ?_ ?_; rotate_left; (intro hb; intro W hW; go_simp; with_reducible rfl)
  simp only [Act.put, List.setIfInBounds_toArray, List.set_cons_succ, List.set_cons_zero]
  refine flow_gop (v := ?_) rfl rfl ?_ ?_; rotate_left; (intro hb; intro W hW; unfold Gives; go_simp; (with_reducible refine (prLists_any _ p.edges 2 p.labels W (HPp1.out W hW) ⟨by omega, by omega⟩ (inB_iff.1 (andL (andL hb)))).mono ?_); rintro e W' ⟨rfl, hb3⟩; first | (refine ⟨?_, Since.trans hW hb3⟩; with_reducible rfl) | (subst hb3; refine ⟨?_, hW⟩; with_reducible rfl))
  simp only [Act.put, List.setIfInBounds_toArray, List.set_cons_succ, List.set_cons_zero]
  first | refine flow_and rfl rfl ?_ | (refine flow_val (v := ?_) rfl ?_ ?_; rotate_left; (intro W hW; go_simp; with_reducible rfl))
  simp only [Act.put, List.setIfInBounds_toArray, List.set_cons_succ, List.set_cons_zero]
  refine flow_val (v := ?_) rfl ?_ ?_; rotate_left; (intro W hW; go_simp; with_reducible rfl)
  simp only [Act.put, List.setIfInBounds_toArray, List.set_cons_succ, List.set_cons_zero]
  intro W5 hW5
  have HW5 := Lib.hid (Since.after Hb0.out hW5)
  clear hW5
  have hr := Lib.hid (prOk_eq p)
  go_wp2
  go_ret
  exact ⟨ret_bool hr.out.symm, HW5.out⟩
theorem InsInv.at_ {orig l : List Int} {i k : Nat} (h : InsInv orig l i k) : k ≤ i ∧ i < l.length ∧ l.length = orig.length := by
  obtain ⟨h1, h2, h3⟩ := ins_len h
  exact ⟨h2, h3, h1⟩
set_option maxHeartbeats 4000000 in
theorem prSorted_any (v : Value) (xs : List Int) (w : World) (h : IntS w v xs) (hl : xs.length ≤ 1000000) :
    Calls Tryz.prog 258 #[v] w fun e w' => ∃ u, e = .returned u ∧ Own w' w.heap.size u (sortI xs) ∧ Below w.heap.size w w' := by
  have H := Lib.hid h
  obtain ⟨A, c, rfl, hlc, hm, hA⟩ := h
  have hok : ∀ l : List Int, l.Perm xs → l.length = xs.length := fun l hp => hp.length_eq
  have Hok := Lib.hid hok
  clear hA hok
  go_enter Tryz.func258, Tryz.ntmps258
  go_upto_region 2 with (go_at_call 171; refine (l1Own_all _ xs _ H.out (by omega)).mono ?_; rintro e w1 ⟨u1, rfl, ho1, hb1⟩)
  rcases ho1.cases with ⟨rfl, h0⟩ | ⟨g, cg, rfl, hg1, hg2⟩
  · have Ho1 := Lib.hid ho1
    have Hb1 := Lib.hid hb1
    have hx0 : xs.length = 0 := by rw [h0]; rfl
    have Hs : Hid (sortI xs = []) := by show _ = _; rw [h0]; exact List.mergeSort_nil
    have H0 := Lib.hid h0
    clear ho1 hb1 h0
    go_wp2
    go_loopw [11] (fun i wr => i = .int .i64 0 ∧ wr = w1) (fun _ _ => 0)
    case atStart => exact ⟨rfl, rfl⟩
    case round =>
      obtain ⟨rfl, rfl⟩ := hrel
      go_wp2
      go_ret
      exact ⟨_, rfl, by rw [Hs.out]; exact own_nil _ _, Hb1.out⟩
  · have Ho1 := Lib.hid ho1
    have Hb1 := Lib.hid hb1
    clear ho1 hb1
    go_wp2
    go_loopw [11] (fun i wr => ∃ (k : Nat) (l : List Int), k ≤ xs.length ∧ i = .int .i64 k ∧ SortedTo xs l k ∧ Own wr w.heap.size (.slice (some ⟨g, 0, none⟩) xs.length cg) l ∧ Below w.heap.size w wr) (fun i _ => xs.length - (intOf i).toNat)
    case atStart => exact ⟨0, xs, Nat.zero_le _, rfl, ⟨by simp, List.Perm.refl _⟩, Ho1.out, Hb1.out⟩
    case round =>
      obtain ⟨i, l, hi, rfl, hst, ho, hb⟩ := hrel
      have Hst := Lib.hid hst
      have Ho := Lib.hid ho
      have Hb := Lib.hid hb
      clear hst ho hb
      by_cases hlt : i < xs.length
      · go_upto_region 6 with (fail)
        go_loopw [5] (fun p wr => ∃ (k : Nat) (l : List Int), k ≤ i ∧ p = .int .i64 k ∧ InsInv xs l i k ∧ Own wr w.heap.size (.slice (some ⟨g, 0, none⟩) xs.length cg) l ∧ Below w.heap.size w wr) (fun p _ => (intOf p).toNat)
        case atStart => exact ⟨i, l, Nat.le_refl _, rfl, ins_start Hst.out (by rw [Hok.out l Hst.out.2]; exact hlt), Ho.out, Hb.out⟩
        case round =>
          obtain ⟨k, l, hk, rfl, hin, ho, hb⟩ := hrel
          have Hin := Lib.hid hin
          have Ho := Lib.hid ho
          have Hb := Lib.hid hb
          have hll := (InsInv.at_ hin).2.2
          have hll2 : Hid (l.length = xs.length) := hll
          obtain ⟨x, hx⟩ := getx l k (by omega)
          have Hx := Lib.hid hx
          have k1 := have_cell (ho.cell hx)
          have fx := ho.free k
          clear hin ho hb hx hll
          rcases Nat.eq_zero_or_pos k with h0 | h0
          · subst h0
            go_upto_region 6 with (fail)
            refine wp_region_flow 14 (Since wr) (by kernel_rfl) (by kernel_rfl) (by simp) (since_drew (since_refl _)) ?_
            simp only [List.take_succ_cons, List.take_zero, List.drop_succ_cons, List.drop_zero]
            refine flow_val (v := ?_) rfl ?_ ?_; rotate_left; (intro W hW; go_simp; with_reducible rfl)
            simp only [Act.put, List.setIfInBounds_toArray, List.set_cons_succ, List.set_cons_zero]
            refine flow_val (v := ?_) rfl ?_ ?_; rotate_left; (intro W hW; go_simp; with_reducible rfl)
            simp only [Act.put, List.setIfInBounds_toArray, List.set_cons_succ, List.set_cons_zero]
            refine flow_val (v := ?_) rfl ?_ ?_; rotate_left; (intro W hW; go_simp; with_reducible rfl)
            simp only [Act.put, List.setIfInBounds_toArray, List.set_cons_succ, List.set_cons_zero]
            refine flow_dead rfl rfl (by simp [*]) ?_
            simp only [Act.put, List.setIfInBounds_toArray, List.set_cons_succ, List.set_cons_zero]
            refine flow_dead rfl rfl (by simp [*]) ?_
            simp only [Act.put, List.setIfInBounds_toArray, List.set_cons_succ, List.set_cons_zero]
            refine flow_dead rfl rfl (by simp [*]) ?_
            simp only [Act.put, List.setIfInBounds_toArray, List.set_cons_succ, List.set_cons_zero]
            refine flow_dead rfl rfl (by simp [*]) ?_
            simp only [Act.put, List.setIfInBounds_toArray, List.set_cons_succ, List.set_cons_zero]
            refine flow_dead rfl rfl (by simp [*]) ?_
            simp only [Act.put, List.setIfInBounds_toArray, List.set_cons_succ, List.set_cons_zero]
            refine flow_dead rfl rfl (by simp [*]) ?_
            simp only [Act.put, List.setIfInBounds_toArray, List.set_cons_succ, List.set_cons_zero]
            refine flow_dead rfl rfl (by simp [*]) ?_
            simp only [Act.put, List.setIfInBounds_toArray, List.set_cons_succ, List.set_cons_zero]
            refine flow_dead rfl rfl (by simp [*]) ?_
            simp only [Act.put, List.setIfInBounds_toArray, List.set_cons_succ, List.set_cons_zero]
            refine flow_dead rfl rfl (by simp [*]) ?_
            simp only [Act.put, List.setIfInBounds_toArray, List.set_cons_succ, List.set_cons_zero]
            refine flow_dead rfl rfl (by simp [*]) ?_
            simp only [Act.put, List.setIfInBounds_toArray, List.set_cons_succ, List.set_cons_zero]
            first | refine flow_and rfl rfl ?_ | (refine flow_val (v := ?_) rfl ?_ ?_; rotate_left; (intro W hW; go_simp; with_reducible rfl))
            simp only [Act.put, List.setIfInBounds_toArray, List.set_cons_succ, List.set_cons_zero]
            intro W5 hW5
            have HW5 := Lib.hid (Hb.out.trans (hW5.mono Hb.out.size))
            have HO5 := Lib.hid (Ho.out.keep hW5)
            clear hW5 k1 fx
            go_wp2
            go_roundw
            case rel => exact ⟨i + 1, l, by omega, by go_num, ins_done Hin.out (.inl rfl), HO5.out, HW5.out⟩
            case measure => simp [intOf]; omega
          · obtain ⟨m, rfl⟩ : ∃ m, k = m + 1 := ⟨k - 1, by omega⟩
            obtain ⟨y, hy⟩ := getx l m (by have := hll2.out; omega)
            have Hy := Lib.hid hy
            have k2 := have_cell (Ho.out.cell hy)
            have fy := Ho.out.free m
            clear hy
            have wm : IntKind.i64.wrap (m : Int) = (m : Int) := wr64 _ (by omega) (by omega)
            have wm1 : IntKind.i64.wrap (((m + 1 : Nat) : Int) - 1) = (m : Int) := by rw [wr64 _ (by omega) (by omega)]; omega
            have hm1 : (m : Int) < xs.length := by omega
            have hm2 : (m : Int) + 1 < xs.length := by omega
            have hm3 : (0 : Int) ≤ (m : Int) + 1 := by omega
            have hm4 : (0 : Int) < (m : Int) + 1 := by omega
            go_upto_region 6 with (fail)
            refine wp_region_flow 14 (Since wr) (by kernel_rfl) (by kernel_rfl) (by simp) (since_drew (since_refl _)) ?_
            simp only [List.take_succ_cons, List.take_zero, List.drop_succ_cons, List.drop_zero]
            refine flow_val (v := ?_) rfl ?_ ?_; rotate_left; (intro W hW; go_simp; with_reducible rfl)
            simp only [Act.put, List.setIfInBounds_toArray, List.set_cons_succ, List.set_cons_zero]
            refine flow_val (v := ?_) rfl ?_ ?_; rotate_left; (intro W hW; go_simp; with_reducible rfl)
            simp only [Act.put, List.setIfInBounds_toArray, List.set_cons_succ, List.set_cons_zero]
            refine flow_val (v := ?_) rfl ?_ ?_; rotate_left; (intro W hW; go_simp; with_reducible rfl)
            simp only [Act.put, List.setIfInBounds_toArray, List.set_cons_succ, List.set_cons_zero]
            refine flow_gval (v := ?_) rfl rfl ?_ ?_; rotate_left; (intro hb; intro W hW; go_simp; with_reducible rfl)
            simp only [Act.put, List.setIfInBounds_toArray, List.set_cons_succ, List.set_cons_zero]
            refine flow_gval (v := ?_) rfl rfl ?_ ?_; rotate_left; (intro hb; intro W hW; go_simp; with_reducible rfl)
            simp only [Act.put, List.setIfInBounds_toArray, List.set_cons_succ, List.set_cons_zero]
            refine flow_gval (v := ?_) rfl rfl ?_ ?_; rotate_left; (intro hb; intro W hW; go_simp; with_reducible rfl)
            simp only [Act.put, List.setIfInBounds_toArray, List.set_cons_succ, List.set_cons_zero]
            refine flow_gval (v := ?_) rfl rfl ?_ ?_; rotate_left; (intro hb; intro W hW; go_simp; with_reducible rfl)
            simp only [Act.put, List.setIfInBounds_toArray, List.set_cons_succ, List.set_cons_zero]
            refine flow_gval (v := ?_) rfl rfl ?_ ?_; rotate_left; (intro hb; intro W hW; go_simp; with_reducible rfl)
            simp only [Act.put, List.setIfInBounds_toArray, List.set_cons_succ, List.set_cons_zero]
            refine flow_gval (v := ?_) rfl rfl ?_ ?_; rotate_left; (intro hb; intro W hW; go_simp; with_reducible rfl)
            simp only [Act.put, List.setIfInBounds_toArray, List.set_cons_succ, List.set_cons_zero]
            refine flow_gval (v := ?_) rfl rfl ?_ ?_; rotate_left; (intro hb; intro W hW; go_simp; with_reducible rfl)
            simp only [Act.put, List.setIfInBounds_toArray, List.set_cons_succ, List.set_cons_zero]
            refine flow_gval (v := ?_) rfl rfl ?_ ?_; rotate_left; (intro hb; intro W hW; go_simp; with_reducible rfl)
            simp only [Act.put, List.setIfInBounds_toArray, List.set_cons_succ, List.set_cons_zero]
            refine flow_gval (v := ?_) rfl rfl ?_ ?_; rotate_left; (intro hb; intro W hW; go_simp; with_reducible rfl)
            simp only [Act.put, List.setIfInBounds_toArray, List.set_cons_succ, List.set_cons_zero]
            refine flow_gval (v := ?_) rfl rfl ?_ ?_; rotate_left; (intro hb; intro W hW; go_simp; with_reducible rfl)
            simp only [Act.put, List.setIfInBounds_toArray, List.set_cons_succ, List.set_cons_zero]
            first | refine flow_and rfl rfl ?_ | (refine flow_val (v := ?_) rfl ?_ ?_; rotate_left; (intro W hW; go_simp; with_reducible rfl))
            simp only [Act.put, List.setIfInBounds_toArray, List.set_cons_succ, List.set_cons_zero]
            intro W5 hW5
            have HO5 := Lib.hid (Ho.out.keep hW5)
            have HB5 := Lib.hid (Hb.out.trans (hW5.mono Hb.out.size))
            clear fx fy k1 k2
            have k1 := HO5.out.cell Hx.out
            have k2 := HO5.out.cell Hy.out
            have fx := HO5.out.free (m + 1)
            have fy := HO5.out.free m
            clear hW5
            by_cases hyx : y > x
            · have hd : decide (x < y) = true := by simpa using hyx
              have hd2 : decide (y > x) = true := hd
              have HN := Lib.hid ((HO5.out.set (k := m + 1) y).set (k := m) x)
              have HBN := Lib.hid ((HB5.out.setCell (p := ⟨g, m + 1, none⟩) hg1 (.int .i64 y)).setCell (p := ⟨g, m, none⟩) hg1 (.int .i64 x))
              go_wp2
              go_roundw
              case rel => exact ⟨m, _, by omega, by go_num, ins_swap Hin.out Hy.out Hx.out hyx, HN.out, HBN.out⟩
              case measure => simp [intOf]
              rename_i hh
              rcases hh with hh | hh
              · cases hh
              · omega
            · have hd : decide (x < y) = false := by simpa using hyx
              have hd2 : decide (y > x) = false := hd
              go_wp2
              go_roundw
              case rel => exact ⟨i + 1, l, by omega, by go_num, ins_done Hin.out (.inr ⟨y, x, Hy.out, Hx.out, by omega⟩), HO5.out, HB5.out⟩
              case measure => simp [intOf]; omega
      · obtain rfl : i = xs.length := by omega
        have Hs : Hid (l = sortI xs) := sorted_all (by rw [Hok.out l Hst.out.2]; exact Hst.out)
        go_wp2
        go_ret
        exact ⟨_, rfl, by rw [← Hs.out]; exact Ho.out, Hb.out⟩
end Go.Proofs.YtomnaabadohecaaGreat
namespace Go.Proofs.YtomnaabadohecaaGreat
open Go.RowKit
theorem l1Most_any (a b : Int) (w : World) : Calls Tryz.prog 261 #[.int .i64 a, .int .i64 b] w fun e w' => e = .returned (.int .i64 (max a b)) ∧ w = w' := by
  by_cases h : b < a
  · have hm : max a b = a := by omega
    rw [hm]
    go_enter Tryz.func261, Tryz.ntmps261
    go_wp2
    go_ret
    exact ⟨rfl, rfl⟩
  · have hm : max a b = b := by omega
    rw [hm]
    go_enter Tryz.func261, Tryz.ntmps261
    go_wp2
    go_ret
    exact ⟨rfl, rfl⟩
end Go.Proofs.YtomnaabadohecaaGreat
namespace Go.Proofs.YtomnaabadohecaaGreat
open Go Go.RowKit
/-! A region that draws its order, each operation with a relation of its own to the values of the others. -/
section
variable {P : Program} {ops : Array Oper}
def upd (V : Nat → Value) (i : Nat) (u : Value) : Nat → Value := fun j => if j = i then u else V j
theorem upd_ne (V : Nat → Value) {i j : Nat} (u : Value) (h : j ≠ i) : upd V i u j = V j := if_neg h
theorem upd_self (V : Nat → Value) (i : Nat) (u : Value) : upd V i u i = u := if_pos rfl
def DStep (P : Program) (o : Oper) (A : Act) (W : World) (post : Value → World → Prop) : Prop :=
  match (execOp A.eval o).run P W with
  | .ok (.value u) W' => post u W'
  | .ok (.enter f args) W' => Calls P f args W' fun e W'' => ∃ u, e = .returned u ∧ post u W''
  | _ => False
theorem dstep_val {o : Oper} {A : Act} {W W' : World} {u : Value} {post : Value → World → Prop} (h : (execOp A.eval o).run P W = .ok (.value u) W') (hp : post u W') : DStep P o A W post := by
  unfold DStep; rw [h]; exact hp
theorem wp_region_df {Q : Exit → Act → World → Prop} {rid : Nat} {a : Act} {w w0 : World} (k : Nat) (R : Nat → (Nat → Value) → World → Prop) (hR : ∀ j V W W', R j V W → Since W W' → R j V W')
    (hloc : ∀ j V V' W, V j = V' j → (∀ o, ops[j]? = some o → ∀ d ∈ depsOf o, V d = V' d) → R j V W → R j V' W) (hm : P.follows .mixedOrders = true) (hf : flowB ops k = true) (hkn : decide (k ≤ ops.size) = true) (hs0 : Since w0 w)
    (hstep : ∀ i o, i < k → ops[i]? = some o → ∀ V W, Since w0 W → (∀ d ∈ depsOf o, R d V W) → Region.wanted o (yielded ops (putAll ops (List.range k) V a).tmps) = true ∧ DStep P o (putAll ops (List.range k) V a) W (fun u W' => Since W W' ∧ R i (upd V i u) W'))
    (hend : ∀ V W, Since w0 W → (∀ j, j < k → R j V W) → wpList P ops Q (ops.toList.drop k) (putAll ops (List.range k) V a) W) : (Code.region rid ops true).wp P Q a w := by
  have hok := flow_ok hf
  have hkn := of_decide_eq_true hkn
  have frame : ∀ V, FrameIs a ops V (fun j => j < k) (putAll ops (List.range k) V a) := fun V => by
    have := frame_putAll (a := a) hok.dsts hkn V (List.range k) (fun _ => False) a (fun _ h => h.elim) (fun j hj => ⟨List.mem_range.1 hj, id⟩) List.nodup_range (FrameIs.start a V)
    exact this.same (fun j => by simp)
  let J : (Nat → Prop) → Act → World → Prop := fun D a' W =>
    (Since w0 W ∧ (∀ j, D j → j < k) ∧ ∃ V, FrameIs a ops V D a' ∧ ∀ j, D j → R j V W) ∨
    (∃ m, k ≤ m ∧ m ≤ ops.size ∧ (∀ j, j < ops.size → (D j ↔ j < m)) ∧ wpList P ops Q (ops.toList.drop m) a' W)
  have full : ∀ D a' W, J D a' W → (∀ j, j < k → D j) → ∃ m, k ≤ m ∧ m ≤ ops.size ∧ (∀ j, j < ops.size → (D j ↔ j < m)) ∧ wpList P ops Q (ops.toList.drop m) a' W := by
    intro D a' W hJ hD
    rcases hJ with ⟨hW, hDk, V, hfr, hV⟩ | hJ
    · have e : a' = putAll ops (List.range k) V a := hfr.ext (frame V) (fun j _ => ⟨hDk j, hD j⟩)
      subst e
      exact ⟨k, Nat.le_refl _, hkn, fun j _ => ⟨hDk j, hD j⟩, hend V W hW (fun j hj => hV j (hD j hj))⟩
    · exact hJ
  refine wp_region_inv2 hm hok.back J (.inl ⟨since_drew hs0, fun j hj => hj.elim, fun _ => undef, FrameIs.start a _, fun j hj => hj.elim⟩) ?_ ?_
  · intro D a' W i o hJ ho hDi hdep hcl
    have hin : i < ops.size := (Array.getElem?_eq_some_iff.1 ho).1
    by_cases hik : i < k
    · rcases hJ with ⟨hW, hDk, V, hfr, hV⟩ | ⟨m, h1, h2, h3, _⟩
      rotate_left
      · exact absurd ((h3 i hin).2 (by omega)) hDi
      obtain ⟨hw, hst⟩ := hstep i o hik ho V W hW (fun d hd => hV d (hdep d hd))
      obtain ⟨he, hw'⟩ := agree_exec (ops := ops) (a' := a') (A := putAll ops (List.range k) V a) (fun t ht => hfr.agree (frame V) t (fun j oj hj hoj hd => by
        have hjk : j < k := hj.elim (fun h => hDk j h) id
        exact ⟨hdep j (hok.looks i o hik ho t ht j oj hjk hoj hd), hjk⟩)) (fun cs b => hok.nosel i o cs b ho)
      have next : ∀ u W', Since W W' → R i (upd V i u) W' → J (fun j => D j ∨ j = i) (a'.put o.dst u) W' := by
        intro u W' hS hRi
        refine .inl ⟨hW.after hS, fun j hj => hj.elim (hDk j) (fun e => by omega), upd V i u, ?_, fun j hj => ?_⟩
        · have := (hfr.vals2 (v' := upd V i u) (fun j _ hj => (upd_ne V u (fun e => by subst e; exact hDi hj)).symm)).put (i := i) ho (fun j oj d hj hoj hd hd2 => by
            have := hok.dsts i o hik ho j oj (hDk j hj) hoj d hd hd2
            subst this
            exact hDi hj)
          rwa [upd_self] at this
        · rcases hj with hj | rfl
          · have hji : j ≠ i := fun e => by subst e; exact hDi hj
            exact hloc j V _ W' (upd_ne V u hji).symm (fun oj hoj d hd => (upd_ne V u (fun e => by subst e; exact hDi (hcl j oj hj hoj d hd))).symm) (hR j V W W' (hV j hj) hS)
          · exact hRi
      rw [if_pos (hw'.trans hw)]
      refine .inl ?_
      unfold Oper.wp
      rw [he]
      unfold DStep at hst
      generalize (execOp (putAll ops (List.range k) V a).eval o).run P W = r at hst ⊢
      cases r with
      | ok nx W' =>
        cases nx with
        | value u => exact next u W' hst.1 hst.2
        | enter f args =>
          simp only [Oper.upon]
          exact Calls.mono hst fun e W'' ⟨u, he', h3, h4⟩ => by subst he'; exact next u W'' h3 h4
        | _ => exact hst.elim
      | halt x W' => exact hst.elim
    · have hall : ∀ j, j < i → D j := fun j hj => anc_ready hcl ho hdep (hok.tail i (by omega) hin j hj)
      obtain ⟨m, h1, h2, h3, h4⟩ := full D a' W hJ (fun j hj => hall j (by omega))
      have hmi : m = i := by
        by_cases e1 : i < m
        · exact absurd ((h3 i hin).2 e1) hDi
        · by_cases e2 : m < i
          · have := (h3 m (by omega)).1 (hall m e2); omega
          · omega
      subst hmi
      have hdr : ops.toList.drop m = o :: ops.toList.drop (m + 1) := by
        have : m < ops.toList.length := by simpa using hin
        rw [List.drop_eq_getElem_cons this]
        congr 1
        have := (Array.getElem?_eq_some_iff.1 ho).2
        simpa using this
      rw [hdr] at h4
      unfold wpList at h4
      have next : ∀ a W, wpList P ops Q (ops.toList.drop (m + 1)) a W → J (fun j => D j ∨ j = m) a W := fun a W h => .inr ⟨m + 1, by omega, by omega, fun j hj => by
        constructor
        · rintro (h | rfl)
          · have := (h3 j hj).1 h; omega
          · omega
        · intro h
          by_cases e : j = m
          · exact .inr e
          · exact .inl ((h3 j hj).2 (by omega)), h⟩
      split
      · rename_i hw
        rw [if_pos hw] at h4
        exact h4.imp (Oper.wp_mono next) id
      · rename_i hw
        rw [if_neg hw] at h4
        exact next _ _ h4
  · intro D a' W hJ hall
    obtain ⟨m, h1, h2, h3, h4⟩ := full D a' W hJ (fun j hj => hall j (by omega))
    have hmn : m = ops.size := by
      by_cases e : m < ops.size
      · have := (h3 m e).1 (hall m e); omega
      · omega
    subst hmn
    rw [List.drop_eq_nil_of_le (by simp)] at h4
    exact h4
/-- the relations as a list -/
def RL (l : List ((Nat → Value) → World → Prop)) : Nat → (Nat → Value) → World → Prop := fun j V W => match l[j]? with | some r => r V W | none => True
theorem wp_region_dfl {Q : Exit → Act → World → Prop} {rid : Nat} {a : Act} {w w0 : World} (L : List ((Nat → Value) → World → Prop)) (hR : ∀ r ∈ L, ∀ V W W', r V W → Since W W' → r V W')
    (hloc : ∀ (j : Nat) r, L[j]? = some r → ∀ V V' W, V j = V' j → (∀ o, ops[j]? = some o → ∀ d ∈ depsOf o, V d = V' d) → r V W → r V' W) (k : Nat) (hm : P.follows .mixedOrders = true) (hf : flowB ops k = true) (hkn : decide (k ≤ ops.size) = true) (hs0 : Since w0 w)
    (hstep : ∀ i o, i < k → ops[i]? = some o → ∀ V W, Since w0 W → (∀ d ∈ depsOf o, RL L d V W) → Region.wanted o (yielded ops (putAll ops (List.range k) V a).tmps) = true ∧ DStep P o (putAll ops (List.range k) V a) W (fun u W' => Since W W' ∧ RL L i (upd V i u) W'))
    (hend : ∀ V W, Since w0 W → (∀ j, j < k → RL L j V W) → wpList P ops Q (ops.toList.drop k) (putAll ops (List.range k) V a) W) : (Code.region rid ops true).wp P Q a w := by
  refine wp_region_df k (RL L) (fun j V W W' h hs => ?_) (fun j V V' W h1 h2 h => ?_) hm hf hkn hs0 hstep hend
  · unfold RL at h ⊢
    cases hj : L[j]? with
    | none => trivial
    | some r => rw [hj] at h; exact hR r (List.mem_of_getElem? hj) V W W' h hs
  · unfold RL at h ⊢
    cases hj : L[j]? with
    | none => trivial
    | some r => rw [hj] at h; exact hloc j r hj V V' W h1 h2 h
end
end Go.Proofs.YtomnaabadohecaaGreat
