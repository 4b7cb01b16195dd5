/- Parts of the proof: walks of functions and plain laws. -/
import Derived.Test.YtomnaabadohecaaGreatP21
import Derived.Test.YtomnaabadohecaaGreatP22
import Derived.Test.YtomnaabadohecaaGreatP9
namespace Go.Proofs.YtomnaabadohecaaGreat
open Go.RowKit
/-! solving from a partial labeling -/
theorem por1 {a b : Bool} (h : (!a || b) = false) : a = true := by cases a <;> simp at h ⊢
theorem shape_of {p : Prob} {n : Net} {l : List (List Int)} (h : shapeOk p n l = true) : Shape n.ends l ∧ InR (p.labels - 1) l := by
  rw [shape_u, Bool.and_eq_true, Bool.and_eq_true, decide_eq_true_iff] at h
  obtain ⟨h1, h2, h3⟩ := h
  unfold portsU at h2
  unfold rowsU at h3
  rw [List.all_eq_true] at h2 h3
  refine ⟨⟨h1, fun v es row he hr => ?_⟩, fun v row i x hr hx => ?_⟩
  · have := h2 v (List.mem_range.2 (lt_of_get hr))
    rw [getD_of hr, getD_of he] at this
    simpa using this
  · have := h3 v (List.mem_range.2 (lt_of_get hr))
    rw [getD_of hr] at this
    unfold allB at this
    rw [List.all_eq_true] at this
    have := inB_iff.1 (this x (List.mem_of_getElem? hx))
    exact this
theorem shape_r6 {n : Net} {l : List (List Int)} (hn : netOk n = true) (hs : Shape n.ends l) : l.length ≤ 40 ∧ ∀ (v : Nat) (row : List Int), l[v]? = some row → row.length ≤ 6 := by
  obtain ⟨h1, h2⟩ := netOk_r6 hn
  refine ⟨by rw [hs.1]; exact h1, fun v row hv => ?_⟩
  obtain ⟨es, hes⟩ := getx n.ends v (by rw [← hs.1]; exact lt_of_get hv)
  rw [hs.2 v es row hes hv]
  exact h2 v es hes
theorem szR_bound {l : List (List Int)} (h : ∀ (v : Nat) (row : List Int), l[v]? = some row → row.length ≤ 6) : szR l ≤ 6 * l.length := by
  have h' : ∀ x ∈ l, x.length ≤ 6 := fun x hx => by
    obtain ⟨k, hk⟩ := List.getElem?_of_mem hx
    exact h k x hk
  clear h
  unfold szR
  induction l with
  | nil => simp
  | cons a l ih =>
    have h1 := h' a (by simp)
    have h2 := ih fun x hx => h' x (by simp [hx])
    simp only [List.map_cons, List.sum_cons, List.length_cons]
    omega
def sfNx (_ : Unit) (_ : List (List Int)) : Bool × Unit := (false, ())
def sfOk (p : Prob) (n : Net) (l : List (List Int)) (most : Int) : Bool := prOk p && netOk n && shapeOk p n l && inB 0 200000 most
def sfR (p : Prob) (n : Net) (l : List (List Int)) (most : Int) : Unit × SoR := soR sfNx p n.ends (freeP l) most () l
def fnExactSolveFrom_r0 (p : Prob) (n : Net) (l : List (List Int)) (most : Int) : List (List Int) := if sfOk p n l most = true then (if (sfR p n l most).2.1 = 1 then (sfR p n l most).2.2.1 else []) else []
def fnExactSolveFrom_r1 (p : Prob) (n : Net) (l : List (List Int)) (most : Int) : Int := if sfOk p n l most = true then (sfR p n l most).2.1 else 0
def fnExactSolveFrom_r2 (p : Prob) (n : Net) (l : List (List Int)) (most : Int) : Int := if sfOk p n l most = true then (sfR p n l most).2.2.2.2 else 0
theorem sf_yes {p : Prob} {n : Net} {l : List (List Int)} {most : Int} {R : Unit × SoR} (hok : sfOk p n l most = true) (hR : sfR p n l most = R) : fnExactSolveFrom_r0 p n l most = (if R.2.1 = 1 then R.2.2.1 else []) ∧ fnExactSolveFrom_r1 p n l most = R.2.1 ∧ fnExactSolveFrom_r2 p n l most = R.2.2.2.2 := by
  unfold fnExactSolveFrom_r0 fnExactSolveFrom_r1 fnExactSolveFrom_r2
  rw [hR]
  simp [hok]
theorem sf_no {p : Prob} {n : Net} {l : List (List Int)} {most : Int} (hok : sfOk p n l most = false) : fnExactSolveFrom_r0 p n l most = [] ∧ fnExactSolveFrom_r1 p n l most = 0 ∧ fnExactSolveFrom_r2 p n l most = 0 := by
  unfold fnExactSolveFrom_r0 fnExactSolveFrom_r1 fnExactSolveFrom_r2
  simp [hok]
theorem own_nilII (w : World) (B : Nat) : OwnII w B (.slice none 0 0) [] [] := ⟨[], [], World.ownsRow_nil _ _ _ _, by simp, by simp, by simp [Value.ownBlock], by simp⟩
theorem sfC_enters : ∀ args w, (callFunc 106 args).run Tryz.prog w = .ok (.enter 106 args) w := enters_of Tryz.func106 (by kernel_rfl) rfl
theorem sfC_any (w : World) : Calls Tryz.prog 106 #[] w fun e w' => e = .returned (.bool false) ∧ w' = w := by
  go_enter Tryz.func106, Tryz.ntmps106
  go_wp2
  go_ret
  exact ⟨rfl, rfl⟩
set_option maxRecDepth 100000 in
set_option maxHeartbeats 16000000 in
theorem sfImpl_any (pa pb ve vi vn vl : Value) (p : Prob) (n : Net) (l : List (List Int)) (most : Int) (w : World) (hp : PrIn w pa pb p) (h : NetIn w ve vi vn n) (hl : IntSS w vl l) (_ : -9223372036854775808 ≤ most ∧ most ≤ 9223372036854775807) (hpz : szPr p ≤ 1048576) (hsz : szNet n ≤ 1048576) :
    Calls Tryz.prog 44 #[.agg #[.int .i64 p.labels, .int .i64 p.degree, pa, pb], .agg #[ve, vi, vn], vl, .int .i64 most] w fun e w' => ∃ u S, e = .returned (.tuple #[u, .int .i64 (fnExactSolveFrom_r1 p n l most), .int .i64 (fnExactSolveFrom_r2 p n l most)]) ∧ OwnII w' w.heap.size u (fnExactSolveFrom_r0 p n l most) S ∧ Below w.heap.size w w' := by
  have hel : p.edges.length ≤ 1048576 := by unfold szPr szII at hpz; omega
  have Hnl := Lib.hid (szNet_ids hsz)
  obtain ⟨w0, hw0⟩ : ∃ w0, w0 = ((w).alloc (.cells #[.int .i64 p.labels, .int .i64 p.degree, pa, pb] 74)).alloc (.cells #[ve, vi, vn] 43) := ⟨_, rfl⟩
  have hb0 : Below w.heap.size w w0 := by rw [hw0]; exact (((Below.refl _ _).alloc (by simp <;> omega) _).alloc (by simp <;> omega) _)
  have H := Lib.hid (h.keep hb0)
  obtain ⟨h1, h2, h3⟩ := h.keep hb0
  obtain ⟨A, c, rfl, hlc, hm, hA⟩ := h1
  obtain ⟨A2, c2, rfl, _, hm2, _⟩ := h2
  obtain ⟨A3, c3, rfl, _, hm3, _⟩ := h3
  unfold maxLen at hm hm2 hm3
  have hkP := hp.keep hb0
  have HP := Lib.hid hkP
  obtain ⟨P0, pz0, rfl, hlP0, hmP0, hPe0⟩ := id hkP.1
  unfold maxLen at hmP0
  have HPe0 := Lib.hid hPe0
  clear hPe0
  obtain ⟨P1, pz1, rfl, hlP1, hmP1, hPe1⟩ := id hkP.2
  unfold maxLen at hmP1
  have HPe1 := Lib.hid hPe1
  clear hPe1
  clear hkP hp
  have p00 : ∀ W, Since w0 W → W.cell? ⟨w.heap.size, 0, none⟩ = some (.int .i64 p.labels) := have_cell (by rw [hw0]; simp)
  have p01 : ∀ W, Since w0 W → W.cell? ⟨w.heap.size, 1, none⟩ = some (.int .i64 p.degree) := have_cell (by rw [hw0]; simp)
  have p02 : ∀ W, Since w0 W → W.cell? ⟨w.heap.size, 2, none⟩ = some (.slice P0 p.nodes.length pz0) := have_cell (by rw [hw0]; simp)
  have p03 : ∀ W, Since w0 W → W.cell? ⟨w.heap.size, 3, none⟩ = some (.slice P1 p.edges.length pz1) := have_cell (by rw [hw0]; simp)
  have p10 : ∀ W, Since w0 W → W.cell? ⟨w.heap.size + 1, 0, none⟩ = some (.slice A n.ends.length c) := have_cell (by rw [hw0]; simp)
  have p11 : ∀ W, Since w0 W → W.cell? ⟨w.heap.size + 1, 1, none⟩ = some (.slice A2 n.ids.length c2) := have_cell (by rw [hw0]; simp)
  have p12 : ∀ W, Since w0 W → W.cell? ⟨w.heap.size + 1, 2, none⟩ = some (.slice A3 n.inputs.length c3) := have_cell (by rw [hw0]; simp)
  have Hb0 := Lib.hid hb0
  have Hw0 := Lib.hid hw0
  have HA := Lib.hid hA
  clear hA h
  clear hb0 hw0
  have HPp := Lib.hid (show ∀ X, Since w0 X → PrIn X (.slice P0 p.nodes.length pz0) (.slice P1 p.edges.length pz1) p from fun X hX => HP.out.keep hX)
  have HNn := Lib.hid (show ∀ X, Since w0 X → NetIn X (.slice A n.ends.length c) (.slice A2 n.ids.length c2) (.slice A3 n.inputs.length c3) n from fun X hX => H.out.keep hX.below)
  have HL := Lib.hid (show ∀ X, Since w0 X → IntSS X vl l from fun X hX => (hl.keep Hb0.out).keep hX.below)
  obtain ⟨AL, cL, rfl, -, -, -⟩ := hl
  clear hsz hpz
  go_enter Tryz.func44, Tryz.ntmps44
  go_upto_region 1 with (fail)
  rw [← Hw0.out]
  refine wp_region_flow0 20 (Since w0) (since_refl _) ?_
  simp only [List.take_succ_cons, List.take_zero, List.drop_succ_cons, List.drop_zero]
  refine flow_val (v := ?_) rfl ?_ ?_; rotate_left; (intro W hW; go_simp; with_reducible rfl)
  simp only [Act.put, List.setIfInBounds_toArray, List.set_cons_succ, List.set_cons_zero]
  refine flow_op ?_ rfl ?_ ?_; rotate_left; (intro W hW; unfold Gives; go_simp; (with_reducible refine (isProblem_any _ _ p W (HPp.out W hW)).mono ?_); rintro e W' ⟨rfl, hb3⟩; first | (refine ⟨?_, Since.trans hW hb3⟩; with_reducible rfl) | (subst hb3; refine ⟨?_, hW⟩; with_reducible rfl))
  simp only [Act.put, List.setIfInBounds_toArray, List.set_cons_succ, List.set_cons_zero]
  refine flow_val (v := ?_) rfl ?_ ?_; rotate_left; (intro W hW; go_simp; with_reducible rfl)
  simp only [Act.put, List.setIfInBounds_toArray, List.set_cons_succ, List.set_cons_zero]
  refine flow_val (v := ?_) rfl ?_ ?_; rotate_left; (intro W hW; go_simp; with_reducible rfl)
  simp only [Act.put, List.setIfInBounds_toArray, List.set_cons_succ, List.set_cons_zero]
  refine flow_gval (v := ?_) rfl rfl ?_ ?_; rotate_left; (intro hb; intro W hW; go_simp; with_reducible rfl)
  simp only [Act.put, List.setIfInBounds_toArray, List.set_cons_succ, List.set_cons_zero]
  refine flow_gop (v := ?_) rfl rfl ?_ ?_; rotate_left; (intro hb; intro W hW; unfold Gives; go_simp; (with_reducible refine (isNetwork_any _ _ _ n W (HNn.out W hW) Hnl.out).mono ?_); rintro e W' ⟨rfl, hb3⟩; first | (refine ⟨?_, Since.trans hW hb3⟩; with_reducible rfl) | (subst hb3; refine ⟨?_, hW⟩; with_reducible rfl))
  simp only [Act.put, List.setIfInBounds_toArray, List.set_cons_succ, List.set_cons_zero]
  refine flow_gval (v := ?_) rfl rfl ?_ ?_; rotate_left; (intro hb; intro W hW; go_simp; with_reducible rfl)
  simp only [Act.put, List.setIfInBounds_toArray, List.set_cons_succ, List.set_cons_zero]
  first | refine flow_or rfl rfl ?_ | (refine flow_val (v := ?_) rfl ?_ ?_; rotate_left; (intro W hW; go_simp; with_reducible rfl))
  simp only [Act.put, List.setIfInBounds_toArray, List.set_cons_succ, List.set_cons_zero]
  refine flow_val (v := ?_) rfl ?_ ?_; rotate_left; (intro W hW; go_simp; with_reducible rfl)
  simp only [Act.put, List.setIfInBounds_toArray, List.set_cons_succ, List.set_cons_zero]
  refine flow_gval (v := ?_) rfl rfl ?_ ?_; rotate_left; (intro hb; intro W hW; go_simp; with_reducible rfl)
  simp only [Act.put, List.setIfInBounds_toArray, List.set_cons_succ, List.set_cons_zero]
  refine flow_gval (v := ?_) rfl rfl ?_ ?_; rotate_left; (intro hb; intro W hW; go_simp; with_reducible rfl)
  simp only [Act.put, List.setIfInBounds_toArray, List.set_cons_succ, List.set_cons_zero]
  refine flow_gval (v := ?_) rfl rfl ?_ ?_; rotate_left; (intro hb; intro W hW; go_simp; with_reducible rfl)
  simp only [Act.put, List.setIfInBounds_toArray, List.set_cons_succ, List.set_cons_zero]
  refine flow_gop (v := ?_) rfl rfl ?_ ?_; rotate_left; (intro hb; intro W hW; unfold Gives; go_simp; (with_reducible refine (isPartialShape_any _ _ _ _ _ _ p n l W (HPp.out W hW) (HNn.out W hW) (HL.out W hW) (prOk_lab (por1 hb)).1).mono ?_); rintro e W' ⟨rfl, hb3⟩; first | (refine ⟨?_, Since.trans hW hb3⟩; with_reducible rfl) | (subst hb3; refine ⟨?_, hW⟩; with_reducible rfl))
  simp only [Act.put, List.setIfInBounds_toArray, List.set_cons_succ, List.set_cons_zero]
  refine flow_gval (v := ?_) rfl rfl ?_ ?_; rotate_left; (intro hb; intro W hW; go_simp; with_reducible rfl)
  simp only [Act.put, List.setIfInBounds_toArray, List.set_cons_succ, List.set_cons_zero]
  first | refine flow_or rfl rfl ?_ | (refine flow_val (v := ?_) rfl ?_ ?_; rotate_left; (intro W hW; go_simp; with_reducible rfl))
  simp only [Act.put, List.setIfInBounds_toArray, List.set_cons_succ, List.set_cons_zero]
  refine flow_val (v := ?_) rfl ?_ ?_; rotate_left; (intro W hW; go_simp; with_reducible rfl)
  simp only [Act.put, List.setIfInBounds_toArray, List.set_cons_succ, List.set_cons_zero]
  refine flow_gval (v := ?_) rfl rfl ?_ ?_; rotate_left; (intro hb; intro W hW; go_simp; with_reducible rfl)
  simp only [Act.put, List.setIfInBounds_toArray, List.set_cons_succ, List.set_cons_zero]
  refine flow_gop (v := ?_) rfl rfl ?_ ?_; rotate_left; (intro hb; intro W hW; unfold Gives; go_simp; (with_reducible refine (within_p _ _ _ W).mono ?_); rintro e W' ⟨rfl, hb3⟩; first | (refine ⟨?_, Since.trans hW hb3⟩; with_reducible rfl) | (subst hb3; refine ⟨?_, hW⟩; with_reducible rfl))
  simp only [Act.put, List.setIfInBounds_toArray, List.set_cons_succ, List.set_cons_zero]
  refine flow_gval (v := ?_) rfl rfl ?_ ?_; rotate_left; (intro hb; intro W hW; go_simp; with_reducible rfl)
  simp only [Act.put, List.setIfInBounds_toArray, List.set_cons_succ, List.set_cons_zero]
  first | refine flow_or rfl rfl ?_ | (refine flow_val (v := ?_) rfl ?_ ?_; rotate_left; (intro W hW; go_simp; with_reducible rfl))
  simp only [Act.put, List.setIfInBounds_toArray, List.set_cons_succ, List.set_cons_zero]
  intro W hW
  cases hg : (!prOk p || !netOk n || !shapeOk p n l || !inB 0 200000 most)
  · have hok : sfOk p n l most = true := by unfold sfOk; revert hg; cases prOk p <;> cases netOk n <;> cases shapeOk p n l <;> cases inB 0 200000 most <;> simp
    simp only [Bool.or_eq_false_iff, Bool.not_eq_false'] at hg
    obtain ⟨⟨⟨hp1, hn⟩, hso⟩, hm⟩ := hg
    obtain ⟨hsh, hin⟩ := shape_of hso
    obtain ⟨hlab, hst⟩ := prOk_facts hp1
    obtain ⟨hn40, hn6⟩ := netOk_r6 hn
    obtain ⟨hf40, hf6⟩ := shape_r6 hn hsh
    have Hmo := Lib.hid (inB_iff.1 hm)
    have Hf6 := Lib.hid hf6
    have Hn6 := Lib.hid hn6
    have Hst := Lib.hid hst
    have Hpl := Lib.hid (freeP_len hf40 hf6)
    have Hpo := Lib.hid (freeP_in hsh)
    have Hsh := Lib.hid hsh
    have Hin := Lib.hid hin
    obtain ⟨PT, hPT⟩ : ∃ PT, freeP l = PT := ⟨_, rfl⟩
    obtain ⟨R, hR⟩ : ∃ R, sfR p n l most = R := ⟨_, rfl⟩
    have HR : Hid (soR sfNx p n.ends PT most () l = R) := by show _ = _; rw [← hR, ← hPT]; rfl
    have Hrr := Lib.hid (sf_yes hok hR)
    rw [hPT] at Hpl Hpo
    have HPT := Lib.hid hPT
    have Hhn := Lib.hid hn
    have Hlab := Lib.hid hlab
    have Hel := Lib.hid hel
    have Hs2 := Lib.hid hW
    clear hPT hR hm hp1 hst hf6 hn6 hok hW hso hsh hin hn hlab
    have hs := Hs2.out
    go_wp2_with fail
    clear hs
    refine (newSolver_any _ _ _ _ _ _ p n l _ (HPp.out _ Hs2.out) (HNn.out _ Hs2.out) (HL.out _ Hs2.out) hf40 Hf6.out).mono ?_
    rintro e W1 ⟨sb, ul, uf, SL, rfl, hS, hsb, hb1⟩
    rw [HPT.out] at hS
    have hB : w0.heap.size ≤ W.heap.size := (Since.below Hs2.out).size
    have hsb0 : w0.heap.size ≤ sb := by omega
    have Hs3 := Lib.hid (Since.trans Hs2.out hb1)
    have Hrun := Lib.hid (run_any sfNx (fun _ _ => True) 106 #[] p n _ _ _ _ _ ul uf sb SL w0.heap.size PT most () l W1 sfC_enters hsb0
      (fun X hX => HPp.out X (Below.trans Hs3.out hX)) (fun X hX => HNn.out X (Below.trans Hs3.out hX)) (fun _ _ _ _ _ => trivial)
      (fun s l st X _ hS' _ => (sfC_any X).mono fun e X' ⟨he, hX'⟩ => by rw [hX']; exact ⟨he, trivial, hS', Below.refl _ _⟩)
      (hS.mono hB) trivial Hhn.out Hst.out Hel.out Hlab.out Hsh.out Hin.out Hpo.out Hpl.out Hmo.out Hn6.out)
    rw [HR.out] at Hrun
    clear hS hsb hb1 hB hsb0
    go_wp2_with fail
    refine Hrun.out.mono ?_
    rintro e W2 ⟨rfl, hS2, -, hb2⟩
    have Hs4 := Lib.hid (Below.trans Hs3.out hb2)
    have HS2 := Lib.hid hS2
    obtain ⟨AU, mU, cU, rfl⟩ := lawII.one hS2.2.1
    obtain ⟨d0, d1, d2, d3, d4, d5, d6, d7, d8, d9⟩ := arrI_cells hS2.1
    replace d7 := have_cell d7
    replace d9 := have_cell d9
    have hwB : w.heap.size ≤ w0.heap.size := Hb0.out.size
    clear d0 d1 d2 d3 d4 d5 d6 d8 hS2 hb2
    by_cases h1 : R.2.1 = 1
    · have hbe : (R.2.1 != 1) = false := by simpa using h1
      have hr0 := Hrr.out.1
      rw [if_pos h1] at hr0
      have Hr0 := Lib.hid hr0
      clear h1 hr0
      go_upto_region 7 with (fail)
      refine wp_region_flow 12 (Since W2) (by kernel_rfl) (by kernel_rfl) (by simp) (since_drew (since_refl _)) ?_
      simp only [List.take_succ_cons, List.take_zero, List.drop_succ_cons, List.drop_zero]
      refine flow_val (v := ?_) rfl ?_ ?_; rotate_left; (intro W hW; go_simp; with_reducible rfl)
      simp only [Act.put, List.setIfInBounds_toArray, List.set_cons_succ, List.set_cons_zero]
      refine flow_val (v := ?_) rfl ?_ ?_; rotate_left; (intro W hW; go_simp; with_reducible rfl)
      simp only [Act.put, List.setIfInBounds_toArray, List.set_cons_succ, List.set_cons_zero]
      refine flow_val (v := ?_) rfl ?_ ?_; rotate_left; (intro W hW; go_simp; with_reducible rfl)
      simp only [Act.put, List.setIfInBounds_toArray, List.set_cons_succ, List.set_cons_zero]
      refine flow_val (v := ?_) rfl ?_ ?_; rotate_left; (intro W hW; go_simp; with_reducible rfl)
      simp only [Act.put, List.setIfInBounds_toArray, List.set_cons_succ, List.set_cons_zero]
      refine flow_val (v := ?_) rfl ?_ ?_; rotate_left; (intro W hW; go_simp; with_reducible rfl)
      simp only [Act.put, List.setIfInBounds_toArray, List.set_cons_succ, List.set_cons_zero]
      refine flow_val (v := ?_) rfl ?_ ?_; rotate_left; (intro W hW; go_simp; with_reducible rfl)
      simp only [Act.put, List.setIfInBounds_toArray, List.set_cons_succ, List.set_cons_zero]
      refine flow_val (v := ?_) rfl ?_ ?_; rotate_left; (intro W hW; go_simp; with_reducible rfl)
      simp only [Act.put, List.setIfInBounds_toArray, List.set_cons_succ, List.set_cons_zero]
      refine flow_val (v := ?_) rfl ?_ ?_; rotate_left; (intro W hW; go_simp; with_reducible rfl)
      simp only [Act.put, List.setIfInBounds_toArray, List.set_cons_succ, List.set_cons_zero]
      refine flow_val (v := ?_) rfl ?_ ?_; rotate_left; (intro W hW; go_simp; with_reducible rfl)
      simp only [Act.put, List.setIfInBounds_toArray, List.set_cons_succ, List.set_cons_zero]
      refine flow_val (v := ?_) rfl ?_ ?_; rotate_left; (intro W hW; go_simp; with_reducible rfl)
      simp only [Act.put, List.setIfInBounds_toArray, List.set_cons_succ, List.set_cons_zero]
      refine flow_val (v := ?_) rfl ?_ ?_; rotate_left; (intro W hW; go_simp; with_reducible rfl)
      simp only [Act.put, List.setIfInBounds_toArray, List.set_cons_succ, List.set_cons_zero]
      refine flow_val (v := ?_) rfl ?_ ?_; rotate_left; (intro W hW; go_simp; with_reducible rfl)
      simp only [Act.put, List.setIfInBounds_toArray, List.set_cons_succ, List.set_cons_zero]
      intro W3 hW3
      have HW3 := Lib.hid hW3
      clear hW3 d7 d9
      go_wp2
      go_ret3
      rw [Hr0.out, Hrr.out.2.1, Hrr.out.2.2]
      exact ⟨_, _, rfl, lawII.mono (lawII.keep HS2.out.2.1 HW3.out.below) hwB, Since.after Hb0.out (Since.after Hs4.out HW3.out)⟩
    · have hbe : (R.2.1 != 1) = true := by simpa using h1
      have hr0 := Hrr.out.1
      rw [if_neg h1] at hr0
      have Hr0 := Lib.hid hr0
      clear h1 hr0
      go_upto_region 6 with (fail)
      refine wp_region_flow 8 (Since W2) (by kernel_rfl) (by kernel_rfl) (by simp) (since_drew (since_refl _)) ?_
      simp only [List.take_succ_cons, List.take_zero, List.drop_succ_cons, List.drop_zero]
      refine flow_val (v := ?_) rfl ?_ ?_; rotate_left; (intro W hW; go_simp; with_reducible rfl)
      simp only [Act.put, List.setIfInBounds_toArray, List.set_cons_succ, List.set_cons_zero]
      refine flow_val (v := ?_) rfl ?_ ?_; rotate_left; (intro W hW; go_simp; with_reducible rfl)
      simp only [Act.put, List.setIfInBounds_toArray, List.set_cons_succ, List.set_cons_zero]
      refine flow_val (v := ?_) rfl ?_ ?_; rotate_left; (intro W hW; go_simp; with_reducible rfl)
      simp only [Act.put, List.setIfInBounds_toArray, List.set_cons_succ, List.set_cons_zero]
      refine flow_val (v := ?_) rfl ?_ ?_; rotate_left; (intro W hW; go_simp; with_reducible rfl)
      simp only [Act.put, List.setIfInBounds_toArray, List.set_cons_succ, List.set_cons_zero]
      refine flow_val (v := ?_) rfl ?_ ?_; rotate_left; (intro W hW; go_simp; with_reducible rfl)
      simp only [Act.put, List.setIfInBounds_toArray, List.set_cons_succ, List.set_cons_zero]
      refine flow_val (v := ?_) rfl ?_ ?_; rotate_left; (intro W hW; go_simp; with_reducible rfl)
      simp only [Act.put, List.setIfInBounds_toArray, List.set_cons_succ, List.set_cons_zero]
      refine flow_val (v := ?_) rfl ?_ ?_; rotate_left; (intro W hW; go_simp; with_reducible rfl)
      simp only [Act.put, List.setIfInBounds_toArray, List.set_cons_succ, List.set_cons_zero]
      refine flow_val (v := ?_) rfl ?_ ?_; rotate_left; (intro W hW; go_simp; with_reducible rfl)
      simp only [Act.put, List.setIfInBounds_toArray, List.set_cons_succ, List.set_cons_zero]
      intro W3 hW3
      have HW3 := Lib.hid hW3
      clear hW3 d7 d9
      go_wp2
      go_ret3
      rw [Hr0.out, Hrr.out.2.1, Hrr.out.2.2]
      exact ⟨_, _, rfl, own_nilII _ _, Since.after Hb0.out (Since.after Hs4.out HW3.out)⟩
  · have hk : sfOk p n l most = false := by unfold sfOk; revert hg; cases prOk p <;> cases netOk n <;> cases shapeOk p n l <;> cases inB 0 200000 most <;> simp
    obtain ⟨h0, h1, h2⟩ := sf_no hk
    have HW := Lib.hid hW
    have H0 := Lib.hid h0
    have H1 := Lib.hid h1
    have H2 := Lib.hid h2
    clear hW h0 h1 h2
    go_wp2
    go_ret3
    rw [H0.out, H1.out, H2.out]
    exact ⟨_, _, rfl, own_nilII _ _, Since.after Hb0.out HW.out⟩
set_option maxRecDepth 100000 in
set_option maxHeartbeats 16000000 in
theorem sfSpec_any (pa pb ve vi vn vl : Value) (p : Prob) (n : Net) (l : List (List Int)) (most : Int) (w : World) (hp : PrIn w pa pb p) (h : NetIn w ve vi vn n) (hl : IntSS w vl l) (_ : -9223372036854775808 ≤ most ∧ most ≤ 9223372036854775807) (hpz : szPr p ≤ 1048576) :
    Calls Tryz.prog 42 #[.agg #[.int .i64 p.labels, .int .i64 p.degree, pa, pb], .agg #[ve, vi, vn], vl, .int .i64 most] w fun e w' => ∃ u S, e = .returned (.tuple #[u, .int .i64 (fnExactSolveFrom_r1 p n l most), .int .i64 (fnExactSolveFrom_r2 p n l most)]) ∧ OwnII w' w.heap.size u (fnExactSolveFrom_r0 p n l most) S ∧ szR (fnExactSolveFrom_r0 p n l most) ≤ 1000000000 ∧ Below w.heap.size w w' := by
  have hel : p.edges.length ≤ 1048576 := by unfold szPr szII at hpz; omega
  obtain ⟨w0, hw0⟩ : ∃ w0, w0 = ((w).alloc (.cells #[.int .i64 p.labels, .int .i64 p.degree, pa, pb] 74)).alloc (.cells #[ve, vi, vn] 43) := ⟨_, rfl⟩
  have hb0 : Below w.heap.size w w0 := by rw [hw0]; exact (((Below.refl _ _).alloc (by simp <;> omega) _).alloc (by simp <;> omega) _)
  have H := Lib.hid (h.keep hb0)
  obtain ⟨h1, h2, h3⟩ := h.keep hb0
  obtain ⟨A, c, rfl, hlc, hm, hA⟩ := h1
  obtain ⟨A2, c2, rfl, _, hm2, _⟩ := h2
  obtain ⟨A3, c3, rfl, _, hm3, _⟩ := h3
  unfold maxLen at hm hm2 hm3
  have hkP := hp.keep hb0
  have HP := Lib.hid hkP
  obtain ⟨P0, pz0, rfl, hlP0, hmP0, hPe0⟩ := id hkP.1
  unfold maxLen at hmP0
  have HPe0 := Lib.hid hPe0
  clear hPe0
  obtain ⟨P1, pz1, rfl, hlP1, hmP1, hPe1⟩ := id hkP.2
  unfold maxLen at hmP1
  have HPe1 := Lib.hid hPe1
  clear hPe1
  clear hkP hp
  have p00 : ∀ W, Since w0 W → W.cell? ⟨w.heap.size, 0, none⟩ = some (.int .i64 p.labels) := have_cell (by rw [hw0]; simp)
  have p01 : ∀ W, Since w0 W → W.cell? ⟨w.heap.size, 1, none⟩ = some (.int .i64 p.degree) := have_cell (by rw [hw0]; simp)
  have p02 : ∀ W, Since w0 W → W.cell? ⟨w.heap.size, 2, none⟩ = some (.slice P0 p.nodes.length pz0) := have_cell (by rw [hw0]; simp)
  have p03 : ∀ W, Since w0 W → W.cell? ⟨w.heap.size, 3, none⟩ = some (.slice P1 p.edges.length pz1) := have_cell (by rw [hw0]; simp)
  have p10 : ∀ W, Since w0 W → W.cell? ⟨w.heap.size + 1, 0, none⟩ = some (.slice A n.ends.length c) := have_cell (by rw [hw0]; simp)
  have p11 : ∀ W, Since w0 W → W.cell? ⟨w.heap.size + 1, 1, none⟩ = some (.slice A2 n.ids.length c2) := have_cell (by rw [hw0]; simp)
  have p12 : ∀ W, Since w0 W → W.cell? ⟨w.heap.size + 1, 2, none⟩ = some (.slice A3 n.inputs.length c3) := have_cell (by rw [hw0]; simp)
  have Hb0 := Lib.hid hb0
  have Hw0 := Lib.hid hw0
  have HA := Lib.hid hA
  clear hA h
  clear hb0 hw0
  have HPp := Lib.hid (show ∀ X, Since w0 X → PrIn X (.slice P0 p.nodes.length pz0) (.slice P1 p.edges.length pz1) p from fun X hX => HP.out.keep hX)
  have HNn := Lib.hid (show ∀ X, Since w0 X → NetIn X (.slice A n.ends.length c) (.slice A2 n.ids.length c2) (.slice A3 n.inputs.length c3) n from fun X hX => H.out.keep hX.below)
  have HL := Lib.hid (show ∀ X, Since w0 X → IntSS X vl l from fun X hX => (hl.keep Hb0.out).keep hX.below)
  obtain ⟨AL, cL, rfl, hlL, hmL, -⟩ := hl
  unfold maxLen at hmL
  clear hpz
  go_enter Tryz.func42, Tryz.ntmps42
  go_upto_region 1 with (fail)
  rw [← Hw0.out]
  refine wp_region_flow0 10 (Since w0) (since_refl _) ?_
  simp only [List.take_succ_cons, List.take_zero, List.drop_succ_cons, List.drop_zero]
  refine flow_val (v := ?_) rfl ?_ ?_; rotate_left; (intro W hW; go_simp; with_reducible rfl)
  simp only [Act.put, List.setIfInBounds_toArray, List.set_cons_succ, List.set_cons_zero]
  refine flow_val (v := ?_) rfl ?_ ?_; rotate_left; (intro W hW; go_simp; with_reducible rfl)
  simp only [Act.put, List.setIfInBounds_toArray, List.set_cons_succ, List.set_cons_zero]
  refine flow_val (v := ?_) rfl ?_ ?_; rotate_left; (intro W hW; go_simp; with_reducible rfl)
  simp only [Act.put, List.setIfInBounds_toArray, List.set_cons_succ, List.set_cons_zero]
  refine flow_op ?_ rfl ?_ ?_; rotate_left; (intro W hW; unfold Gives; go_simp; (with_reducible refine (soPartial_any _ _ _ _ _ _ p n l W (HPp.out W hW) (HNn.out W hW) (HL.out W hW)).mono ?_); rintro e W' ⟨rfl, hb3⟩; first | (refine ⟨?_, Since.trans hW hb3⟩; with_reducible rfl) | (subst hb3; refine ⟨?_, hW⟩; with_reducible rfl))
  simp only [Act.put, List.setIfInBounds_toArray, List.set_cons_succ, List.set_cons_zero]
  refine flow_val (v := ?_) rfl ?_ ?_; rotate_left; (intro W hW; go_simp; with_reducible rfl)
  simp only [Act.put, List.setIfInBounds_toArray, List.set_cons_succ, List.set_cons_zero]
  refine flow_val (v := ?_) rfl ?_ ?_; rotate_left; (intro W hW; go_simp; with_reducible rfl)
  simp only [Act.put, List.setIfInBounds_toArray, List.set_cons_succ, List.set_cons_zero]
  refine flow_gval (v := ?_) rfl rfl ?_ ?_; rotate_left; (intro hb; intro W hW; go_simp; with_reducible rfl)
  simp only [Act.put, List.setIfInBounds_toArray, List.set_cons_succ, List.set_cons_zero]
  refine flow_gop (v := ?_) rfl rfl ?_ ?_; rotate_left; (intro hb; intro W hW; unfold Gives; go_simp; (with_reducible refine (soMost_any _ W).mono ?_); rintro e W' ⟨rfl, hb3⟩; first | (refine ⟨?_, Since.trans hW hb3⟩; with_reducible rfl) | (subst hb3; refine ⟨?_, hW⟩; with_reducible rfl))
  simp only [Act.put, List.setIfInBounds_toArray, List.set_cons_succ, List.set_cons_zero]
  refine flow_gval (v := ?_) rfl rfl ?_ ?_; rotate_left; (intro hb; intro W hW; go_simp; with_reducible rfl)
  simp only [Act.put, List.setIfInBounds_toArray, List.set_cons_succ, List.set_cons_zero]
  first | refine flow_or rfl rfl ?_ | (refine flow_val (v := ?_) rfl ?_ ?_; rotate_left; (intro W hW; go_simp; with_reducible rfl))
  simp only [Act.put, List.setIfInBounds_toArray, List.set_cons_succ, List.set_cons_zero]
  intro W hW
  cases hg : (!spOk p n l || !inB 0 200000 most)
  · have hok : sfOk p n l most = true := by unfold sfOk; unfold spOk at hg; revert hg; cases prOk p <;> cases netOk n <;> cases shapeOk p n l <;> cases inB 0 200000 most <;> simp
    simp only [spOk, Bool.or_eq_false_iff, Bool.not_eq_false', Bool.and_eq_true] at hg
    obtain ⟨⟨⟨hp1, hn⟩, hso⟩, hm⟩ := hg
    obtain ⟨hsh, hin⟩ := shape_of hso
    obtain ⟨hlab, hst⟩ := prOk_facts hp1
    obtain ⟨hn40, hn6⟩ := netOk_r6 hn
    obtain ⟨hf40, hf6⟩ := shape_r6 hn hsh
    have Hmo := Lib.hid (inB_iff.1 hm)
    have Hf6 := Lib.hid hf6
    have Hn6 := Lib.hid hn6
    have Hst := Lib.hid hst
    have Hpl := Lib.hid (freeP_len hf40 hf6)
    have Hpo := Lib.hid (freeP_in hsh)
    have Hsh := Lib.hid hsh
    have Hin := Lib.hid hin
    obtain ⟨PT, hPT⟩ : ∃ PT, freeP l = PT := ⟨_, rfl⟩
    obtain ⟨r, hr⟩ : ∃ r, soQ p n.ends PT most true l 0 0 = r := ⟨_, rfl⟩
    have hR : sfR p n l most = ((), r) := by
      unfold sfR
      rw [hPT, soR_A]
      have := (soA_next sfNx p n.ends PT most true () l 0 0 (by omega) (by omega) (by have := Hmo.out; omega) r hr).1
      rw [this]
      split
      · rw [if_neg (by simp [sfNx])]
        try rfl
      · rfl
    have Hrr := Lib.hid (sf_yes hok hR)
    have HQ := Lib.hid hr
    rw [hPT] at Hpl Hpo
    have HPT := Lib.hid hPT
    have Hhn := Lib.hid hn
    have Hlab := Lib.hid hlab
    have Hel := Lib.hid hel
    have Hs2 := Lib.hid hW
    clear hPT hR hr hm hp1 hst hf6 hn6 hok hW hso hsh hin hn hlab
    have hs := Hs2.out
    go_wp2_with fail
    clear hs
    refine (soStart_any _ _ _ _ _ _ p n l most _ (HPp.out _ Hs2.out) (HNn.out _ Hs2.out) (HL.out _ Hs2.out) hf40 Hf6.out).mono ?_
    rintro e W1 ⟨sb, ul, uf, SL, rfl, hS, hsb, hb1⟩
    rw [HPT.out] at hS
    have hB : w0.heap.size ≤ W.heap.size := (Since.below Hs2.out).size
    have hsb0 : w0.heap.size ≤ sb := by omega
    have Hs3 := Lib.hid (Since.trans Hs2.out hb1)
    have Hrun := Lib.hid (soRun_any p n _ _ _ _ _ ul uf sb SL w0.heap.size PT most 0 0 true l W1 hsb0
      (fun X hX => HPp.out X (Below.trans Hs3.out hX)) (fun X hX => HNn.out X (Below.trans Hs3.out hX))
      (hS.mono hB) Hhn.out Hst.out Hel.out Hlab.out Hsh.out Hin.out Hpo.out Hpl.out Hmo.out ⟨by omega, by omega⟩ ⟨by omega, Hmo.out.1⟩ Hn6.out)
    rw [HQ.out] at Hrun
    clear hS hsb hb1 hB hsb0
    go_wp2_with fail
    refine Hrun.out.mono ?_
    rintro e W2 ⟨rfl, hS2, hin2, hb2⟩
    have Hs4 := Lib.hid (Below.trans Hs3.out hb2)
    have HS2 := Lib.hid hS2
    have Hz := Lib.hid (shape_r6 Hhn.out hin2.1)
    obtain ⟨AU, mU, cU, rfl⟩ := lawII.one hS2.2.1
    obtain ⟨d0, d1, d2, d3, d4, d5, d6, d7, d8, d9, d10, d11, d12⟩ := arrS_cells hS2.1
    replace d7 := have_cell d7
    replace d10 := have_cell d10
    have hwB : w.heap.size ≤ w0.heap.size := Hb0.out.size
    clear d0 d1 d2 d3 d4 d5 d6 d8 d9 d11 d12 hS2 hb2 hin2
    by_cases h1 : r.1 = 1
    · have hbe : (r.1 != 1) = false := by simpa using h1
      have hr0 := Hrr.out.1
      rw [if_pos h1] at hr0
      have Hr0 := Lib.hid hr0
      clear h1 hr0
      go_upto_region 7 with (fail)
      refine wp_region_flow 12 (Since W2) (by kernel_rfl) (by kernel_rfl) (by simp) (since_drew (since_refl _)) ?_
      simp only [List.take_succ_cons, List.take_zero, List.drop_succ_cons, List.drop_zero]
      refine flow_val (v := ?_) rfl ?_ ?_; rotate_left; (intro W hW; go_simp; with_reducible rfl)
      simp only [Act.put, List.setIfInBounds_toArray, List.set_cons_succ, List.set_cons_zero]
      refine flow_val (v := ?_) rfl ?_ ?_; rotate_left; (intro W hW; go_simp; with_reducible rfl)
      simp only [Act.put, List.setIfInBounds_toArray, List.set_cons_succ, List.set_cons_zero]
      refine flow_val (v := ?_) rfl ?_ ?_; rotate_left; (intro W hW; go_simp; with_reducible rfl)
      simp only [Act.put, List.setIfInBounds_toArray, List.set_cons_succ, List.set_cons_zero]
      refine flow_val (v := ?_) rfl ?_ ?_; rotate_left; (intro W hW; go_simp; with_reducible rfl)
      simp only [Act.put, List.setIfInBounds_toArray, List.set_cons_succ, List.set_cons_zero]
      refine flow_val (v := ?_) rfl ?_ ?_; rotate_left; (intro W hW; go_simp; with_reducible rfl)
      simp only [Act.put, List.setIfInBounds_toArray, List.set_cons_succ, List.set_cons_zero]
      refine flow_val (v := ?_) rfl ?_ ?_; rotate_left; (intro W hW; go_simp; with_reducible rfl)
      simp only [Act.put, List.setIfInBounds_toArray, List.set_cons_succ, List.set_cons_zero]
      refine flow_val (v := ?_) rfl ?_ ?_; rotate_left; (intro W hW; go_simp; with_reducible rfl)
      simp only [Act.put, List.setIfInBounds_toArray, List.set_cons_succ, List.set_cons_zero]
      refine flow_val (v := ?_) rfl ?_ ?_; rotate_left; (intro W hW; go_simp; with_reducible rfl)
      simp only [Act.put, List.setIfInBounds_toArray, List.set_cons_succ, List.set_cons_zero]
      refine flow_val (v := ?_) rfl ?_ ?_; rotate_left; (intro W hW; go_simp; with_reducible rfl)
      simp only [Act.put, List.setIfInBounds_toArray, List.set_cons_succ, List.set_cons_zero]
      refine flow_val (v := ?_) rfl ?_ ?_; rotate_left; (intro W hW; go_simp; with_reducible rfl)
      simp only [Act.put, List.setIfInBounds_toArray, List.set_cons_succ, List.set_cons_zero]
      refine flow_val (v := ?_) rfl ?_ ?_; rotate_left; (intro W hW; go_simp; with_reducible rfl)
      simp only [Act.put, List.setIfInBounds_toArray, List.set_cons_succ, List.set_cons_zero]
      refine flow_val (v := ?_) rfl ?_ ?_; rotate_left; (intro W hW; go_simp; with_reducible rfl)
      simp only [Act.put, List.setIfInBounds_toArray, List.set_cons_succ, List.set_cons_zero]
      intro W3 hW3
      have HW3 := Lib.hid hW3
      clear hW3 d7 d10
      go_wp2
      go_ret3
      rw [Hr0.out, Hrr.out.2.1, Hrr.out.2.2]
      exact ⟨_, _, rfl, lawII.mono (lawII.keep HS2.out.2.1 HW3.out.below) hwB, by have := szR_bound Hz.out.2; have := Hz.out.1; show szR r.2.1 ≤ _; omega, Since.after Hb0.out (Since.after Hs4.out HW3.out)⟩
    · have hbe : (r.1 != 1) = true := by simpa using h1
      have hr0 := Hrr.out.1
      rw [if_neg h1] at hr0
      have Hr0 := Lib.hid hr0
      clear h1 hr0
      go_upto_region 6 with (fail)
      refine wp_region_flow 8 (Since W2) (by kernel_rfl) (by kernel_rfl) (by simp) (since_drew (since_refl _)) ?_
      simp only [List.take_succ_cons, List.take_zero, List.drop_succ_cons, List.drop_zero]
      refine flow_val (v := ?_) rfl ?_ ?_; rotate_left; (intro W hW; go_simp; with_reducible rfl)
      simp only [Act.put, List.setIfInBounds_toArray, List.set_cons_succ, List.set_cons_zero]
      refine flow_val (v := ?_) rfl ?_ ?_; rotate_left; (intro W hW; go_simp; with_reducible rfl)
      simp only [Act.put, List.setIfInBounds_toArray, List.set_cons_succ, List.set_cons_zero]
      refine flow_val (v := ?_) rfl ?_ ?_; rotate_left; (intro W hW; go_simp; with_reducible rfl)
      simp only [Act.put, List.setIfInBounds_toArray, List.set_cons_succ, List.set_cons_zero]
      refine flow_val (v := ?_) rfl ?_ ?_; rotate_left; (intro W hW; go_simp; with_reducible rfl)
      simp only [Act.put, List.setIfInBounds_toArray, List.set_cons_succ, List.set_cons_zero]
      refine flow_val (v := ?_) rfl ?_ ?_; rotate_left; (intro W hW; go_simp; with_reducible rfl)
      simp only [Act.put, List.setIfInBounds_toArray, List.set_cons_succ, List.set_cons_zero]
      refine flow_val (v := ?_) rfl ?_ ?_; rotate_left; (intro W hW; go_simp; with_reducible rfl)
      simp only [Act.put, List.setIfInBounds_toArray, List.set_cons_succ, List.set_cons_zero]
      refine flow_val (v := ?_) rfl ?_ ?_; rotate_left; (intro W hW; go_simp; with_reducible rfl)
      simp only [Act.put, List.setIfInBounds_toArray, List.set_cons_succ, List.set_cons_zero]
      refine flow_val (v := ?_) rfl ?_ ?_; rotate_left; (intro W hW; go_simp; with_reducible rfl)
      simp only [Act.put, List.setIfInBounds_toArray, List.set_cons_succ, List.set_cons_zero]
      intro W3 hW3
      have HW3 := Lib.hid hW3
      clear hW3 d7 d10
      go_wp2
      go_ret3
      rw [Hr0.out, Hrr.out.2.1, Hrr.out.2.2]
      exact ⟨_, _, rfl, own_nilII _ _, by simp [szR], Since.after Hb0.out (Since.after Hs4.out HW3.out)⟩
  · have hk : sfOk p n l most = false := by unfold sfOk; unfold spOk at hg; revert hg; cases prOk p <;> cases netOk n <;> cases shapeOk p n l <;> cases inB 0 200000 most <;> simp
    obtain ⟨h0, h1, h2⟩ := sf_no hk
    have HW := Lib.hid hW
    have H0 := Lib.hid h0
    have H1 := Lib.hid h1
    have H2 := Lib.hid h2
    clear hW h0 h1 h2
    go_wp2
    go_ret3
    rw [H0.out, H1.out, H2.out]
    exact ⟨_, _, rfl, own_nilII _ _, by simp [szR], Since.after Hb0.out HW.out⟩
theorem fnExactSolveFrom_impl (pa pb ve vi vn vl : Value) (p : Prob) (n : Net) (l : List (List Int)) (most : Int) (w : World) (hp : PrIn w pa pb p) (h : NetIn w ve vi vn n) (hl : IntSS w vl l) (hm : -9223372036854775808 ≤ most ∧ most ≤ 9223372036854775807) (hpz : szPr p ≤ 1048576) (hsz : szNet n ≤ 1048576) (_ : szII l ≤ 1048576) :
    Calls Tryz.prog 44 #[.agg #[.int .i64 p.labels, .int .i64 p.degree, pa, pb], .agg #[ve, vi, vn], vl, .int .i64 most] w fun e w' => ∃ u S, e = .returned (.tuple #[u, .int .i64 (fnExactSolveFrom_r1 p n l most), .int .i64 (fnExactSolveFrom_r2 p n l most)]) ∧ OwnII w' w.heap.size u (fnExactSolveFrom_r0 p n l most) S ∧ Below w.heap.size w w' := sfImpl_any pa pb ve vi vn vl p n l most w hp h hl hm hpz hsz
theorem fnExactSolveFrom_spec (pa pb ve vi vn vl : Value) (p : Prob) (n : Net) (l : List (List Int)) (most : Int) (w : World) (hp : PrIn w pa pb p) (h : NetIn w ve vi vn n) (hl : IntSS w vl l) (hm : -9223372036854775808 ≤ most ∧ most ≤ 9223372036854775807) (hpz : szPr p ≤ 1048576) (_ : szNet n ≤ 1048576) (_ : szII l ≤ 1048576) :
    Calls Tryz.prog 42 #[.agg #[.int .i64 p.labels, .int .i64 p.degree, pa, pb], .agg #[ve, vi, vn], vl, .int .i64 most] w fun e w' => ∃ u S, e = .returned (.tuple #[u, .int .i64 (fnExactSolveFrom_r1 p n l most), .int .i64 (fnExactSolveFrom_r2 p n l most)]) ∧ OwnII w' w.heap.size u (fnExactSolveFrom_r0 p n l most) S ∧ szR (fnExactSolveFrom_r0 p n l most) ≤ 1000000000 ∧ Below w.heap.size w w' := sfSpec_any pa pb ve vi vn vl p n l most w hp h hl hm hpz
end Go.Proofs.YtomnaabadohecaaGreat
namespace Go.Proofs.YtomnaabadohecaaGreat
open Go.RowKit
/-! solving from nothing -/
theorem szNet_rows {n : Net} (h : szNet n ≤ 1048576) : n.ends.length ≤ 1048576 ∧ ∀ (v : Nat) (es : List (Int × Int)), n.ends[v]? = some es → es.length ≤ 1048576 := by
  unfold szNet szEE at h
  refine ⟨by omega, fun v es hes => ?_⟩
  have h1 := szRows_le n.ends (v + 1)
  rw [szRows_snoc hes] at h1
  omega
def fnExactSolveOn_r0 (p : Prob) (n : Net) (most : Int) : List (List Int) := fnExactSolveFrom_r0 p n (freeL n) most
def fnExactSolveOn_r1 (p : Prob) (n : Net) (most : Int) : Int := fnExactSolveFrom_r1 p n (freeL n) most
def fnExactSolveOn_r2 (p : Prob) (n : Net) (most : Int) : Int := fnExactSolveFrom_r2 p n (freeL n) most
set_option maxRecDepth 100000 in
set_option maxHeartbeats 16000000 in
theorem fnExactSolveOn_impl (pa pb ve vi vn : Value) (p : Prob) (n : Net) (most : Int) (w : World) (hp : PrIn w pa pb p) (h : NetIn w ve vi vn n) (hm : -9223372036854775808 ≤ most ∧ most ≤ 9223372036854775807) (hpz : szPr p ≤ 1048576) (hsz : szNet n ≤ 1048576) :
    Calls Tryz.prog 50 #[.agg #[.int .i64 p.labels, .int .i64 p.degree, pa, pb], .agg #[ve, vi, vn], .int .i64 most] w fun e w' => ∃ u S, e = .returned (.tuple #[u, .int .i64 (fnExactSolveOn_r1 p n most), .int .i64 (fnExactSolveOn_r2 p n most)]) ∧ OwnII w' w.heap.size u (fnExactSolveOn_r0 p n most) S ∧ Below w.heap.size w w' := by
  have Hnl := Lib.hid (szNet_ids hsz)
  have Hsz := Lib.hid hsz
  have Hpz := Lib.hid hpz
  have Hmm := Lib.hid hm
  unfold fnExactSolveOn_r0 fnExactSolveOn_r1 fnExactSolveOn_r2
  obtain ⟨F, hF⟩ : ∃ F, freeL n = F := ⟨_, rfl⟩
  rw [hF]
  have HF := Lib.hid hF
  clear hF
  obtain ⟨w0, hw0⟩ : ∃ w0, w0 = ((w).alloc (.cells #[.int .i64 p.labels, .int .i64 p.degree, pa, pb] 74)).alloc (.cells #[ve, vi, vn] 43) := ⟨_, rfl⟩
  have hb0 : Below w.heap.size w w0 := by rw [hw0]; exact (((Below.refl _ _).alloc (by simp <;> omega) _).alloc (by simp <;> omega) _)
  have H := Lib.hid (h.keep hb0)
  obtain ⟨h1, h2, h3⟩ := h.keep hb0
  obtain ⟨A, c, rfl, hlc, hm, hA⟩ := h1
  obtain ⟨A2, c2, rfl, _, hm2, _⟩ := h2
  obtain ⟨A3, c3, rfl, _, hm3, _⟩ := h3
  unfold maxLen at hm hm2 hm3
  have hkP := hp.keep hb0
  have HP := Lib.hid hkP
  obtain ⟨P0, pz0, rfl, hlP0, hmP0, hPe0⟩ := id hkP.1
  unfold maxLen at hmP0
  have HPe0 := Lib.hid hPe0
  clear hPe0
  obtain ⟨P1, pz1, rfl, hlP1, hmP1, hPe1⟩ := id hkP.2
  unfold maxLen at hmP1
  have HPe1 := Lib.hid hPe1
  clear hPe1
  clear hkP hp
  have p00 : ∀ W, Since w0 W → W.cell? ⟨w.heap.size, 0, none⟩ = some (.int .i64 p.labels) := have_cell (by rw [hw0]; simp)
  have p01 : ∀ W, Since w0 W → W.cell? ⟨w.heap.size, 1, none⟩ = some (.int .i64 p.degree) := have_cell (by rw [hw0]; simp)
  have p02 : ∀ W, Since w0 W → W.cell? ⟨w.heap.size, 2, none⟩ = some (.slice P0 p.nodes.length pz0) := have_cell (by rw [hw0]; simp)
  have p03 : ∀ W, Since w0 W → W.cell? ⟨w.heap.size, 3, none⟩ = some (.slice P1 p.edges.length pz1) := have_cell (by rw [hw0]; simp)
  have p10 : ∀ W, Since w0 W → W.cell? ⟨w.heap.size + 1, 0, none⟩ = some (.slice A n.ends.length c) := have_cell (by rw [hw0]; simp)
  have p11 : ∀ W, Since w0 W → W.cell? ⟨w.heap.size + 1, 1, none⟩ = some (.slice A2 n.ids.length c2) := have_cell (by rw [hw0]; simp)
  have p12 : ∀ W, Since w0 W → W.cell? ⟨w.heap.size + 1, 2, none⟩ = some (.slice A3 n.inputs.length c3) := have_cell (by rw [hw0]; simp)
  have Hb0 := Lib.hid hb0
  have Hw0 := Lib.hid hw0
  have HA := Lib.hid hA
  clear hA h
  clear hb0 hw0
  have HPp := Lib.hid (show ∀ X, Since w0 X → PrIn X (.slice P0 p.nodes.length pz0) (.slice P1 p.edges.length pz1) p from fun X hX => HP.out.keep hX)
  have HNn := Lib.hid (show ∀ X, Since w0 X → NetIn X (.slice A n.ends.length c) (.slice A2 n.ids.length c2) (.slice A3 n.inputs.length c3) n from fun X hX => H.out.keep hX.below)
  clear hsz hpz hm
  go_enter Tryz.func50, Tryz.ntmps50
  go_upto_region 1 with (fail)
  rw [← Hw0.out]
  have hs : Since w0 w0 := since_refl _
  go_wp2_with fail
  refine (isNetwork_any _ _ _ n _ (HNn.out _ hs) Hnl.out).mono ?_
  rintro e W1 ⟨rfl, hb⟩
  replace hs : Since w0 W1 := hs.trans hb
  clear hb
  cases hg : netOk n
  · have hk : sfOk p n F most = false := by unfold sfOk; rw [hg]; cases prOk p <;> simp
    obtain ⟨h0, h1, h2⟩ := sf_no hk
    have HW := Lib.hid hs
    have H0 := Lib.hid h0
    have H1 := Lib.hid h1
    have H2 := Lib.hid h2
    clear hs h0 h1 h2 hg hk
    go_wp2
    go_ret3
    rw [H0.out, H1.out, H2.out]
    exact ⟨_, _, rfl, own_nilII _ _, Since.after Hb0.out HW.out⟩
  · obtain ⟨hn40, hn6⟩ := netOk_r6 hg
    have Hn6 := Lib.hid hn6
    have hwB : w.heap.size ≤ w0.heap.size := Hb0.out.size
    clear hn6 hg
    go_upto_region 3 with (fail)
    refine wp_region_chainflow (w0 := w0) 6 [false, false, false, true, false, true] (by kernel_rfl) (by kernel_rfl) (hs) ?_
    simp only [selF, selT, List.take_succ_cons, List.take_zero, List.drop_succ_cons, List.drop_zero]
    refine pflow_val (v := ?_) rfl ?_ ?_; rotate_left; (intro W hW; go_simp; with_reducible rfl)
    simp only [Act.put, List.setIfInBounds_toArray, List.set_cons_succ, List.set_cons_zero]
    refine pflow_val (v := ?_) rfl ?_ ?_; rotate_left; (intro W hW; go_simp; with_reducible rfl)
    simp only [Act.put, List.setIfInBounds_toArray, List.set_cons_succ, List.set_cons_zero]
    refine pflow_val (v := ?_) rfl ?_ ?_; rotate_left; (intro W hW; go_simp; with_reducible rfl)
    simp only [Act.put, List.setIfInBounds_toArray, List.set_cons_succ, List.set_cons_zero]
    refine pflow_val (v := ?_) rfl ?_ ?_; rotate_left; (intro W hW; go_simp; with_reducible rfl)
    simp only [Act.put, List.setIfInBounds_toArray, List.set_cons_succ, List.set_cons_zero]
    obtain ⟨W, hWd⟩ : ∃ W, W = World.drew W1 := ⟨_, rfl⟩
    rw [← hWd]
    have hW : Since w0 W := by rw [hWd]; exact since_drew (hs)
    clear hWd
    refine Or.inl ⟨rfl, ?_⟩
    go_simp
    (with_reducible refine (unlabeled_any _ _ _ n _ (HNn.out _ hW) (by omega) (fun v es hv => Nat.le_trans (Hn6.out v es hv) (by omega))).mono ?_)
    rintro e W' ⟨u1, S1, rfl, ho1, hb1⟩
    refine ⟨_, rfl, hW.trans hb1, ?_⟩
    replace hW := hW.trans hb1
    obtain ⟨AU, mU, cU, rfl⟩ := lawII.one ho1
    have HO1 := Lib.hid (HF.out ▸ ho1.read)
    have HZ1 : Hid (w.heap.size ≤ W'.heap.size) := Nat.le_trans hwB (Since.below hW).size
    clear ho1 hb1
    (try simp only [Act.put, List.setIfInBounds_toArray, List.set_cons_succ, List.set_cons_zero])
    refine Or.inl ⟨rfl, ?_⟩
    go_simp
    (with_reducible refine (sfImpl_any _ _ _ _ _ _ p n F most _ (HPp.out _ hW) (HNn.out _ hW) HO1.out Hmm.out Hpz.out Hsz.out).mono ?_)
    rintro e W' ⟨uR, SR, rfl, hoR, hbR⟩
    refine ⟨_, rfl, hW.trans hbR, ?_⟩
    replace hW := hW.trans hbR
    obtain ⟨AR, mR, cR, rfl⟩ := lawII.one hoR
    have HOR := Lib.hid (lawII.mono hoR HZ1.out)
    clear hoR hbR
    (try simp only [Act.put, List.setIfInBounds_toArray, List.set_cons_succ, List.set_cons_zero])
    have HW0 := Lib.hid hW
    refine ⟨fun W => Since W' W, since_refl _, ?_⟩
    refine flow_val (v := ?_) rfl ?_ ?_; rotate_left; (intro W hW; go_simp; with_reducible rfl)
    simp only [Act.put, List.setIfInBounds_toArray, List.set_cons_succ, List.set_cons_zero]
    refine flow_val (v := ?_) rfl ?_ ?_; rotate_left; (intro W hW; go_simp; with_reducible rfl)
    simp only [Act.put, List.setIfInBounds_toArray, List.set_cons_succ, List.set_cons_zero]
    refine flow_val (v := ?_) rfl ?_ ?_; rotate_left; (intro W hW; go_simp; with_reducible rfl)
    simp only [Act.put, List.setIfInBounds_toArray, List.set_cons_succ, List.set_cons_zero]
    refine flow_val (v := ?_) rfl ?_ ?_; rotate_left; (intro W hW; go_simp; with_reducible rfl)
    simp only [Act.put, List.setIfInBounds_toArray, List.set_cons_succ, List.set_cons_zero]
    refine flow_val (v := ?_) rfl ?_ ?_; rotate_left; (intro W hW; go_simp; with_reducible rfl)
    simp only [Act.put, List.setIfInBounds_toArray, List.set_cons_succ, List.set_cons_zero]
    refine flow_val (v := ?_) rfl ?_ ?_; rotate_left; (intro W hW; go_simp; with_reducible rfl)
    simp only [Act.put, List.setIfInBounds_toArray, List.set_cons_succ, List.set_cons_zero]
    clear hW
    intro W hW
    have HW := Lib.hid hW
    clear hW hs
    go_wp2
    go_ret3
    exact ⟨_, _, rfl, lawII.keep HOR.out HW.out.below, Since.after Hb0.out (HW0.out.after HW.out)⟩
set_option maxRecDepth 100000 in
set_option maxHeartbeats 16000000 in
theorem fnExactSolveOn_spec (pa pb ve vi vn : Value) (p : Prob) (n : Net) (most : Int) (w : World) (hp : PrIn w pa pb p) (h : NetIn w ve vi vn n) (hm : -9223372036854775808 ≤ most ∧ most ≤ 9223372036854775807) (hpz : szPr p ≤ 1048576) (hsz : szNet n ≤ 1048576) :
    Calls Tryz.prog 49 #[.agg #[.int .i64 p.labels, .int .i64 p.degree, pa, pb], .agg #[ve, vi, vn], .int .i64 most] w fun e w' => ∃ u S, e = .returned (.tuple #[u, .int .i64 (fnExactSolveOn_r1 p n most), .int .i64 (fnExactSolveOn_r2 p n most)]) ∧ OwnII w' w.heap.size u (fnExactSolveOn_r0 p n most) S ∧ szR (fnExactSolveOn_r0 p n most) ≤ 1000000000 ∧ Below w.heap.size w w' := by
  have Hsr := Lib.hid (szNet_rows hsz)
  have Hpz := Lib.hid hpz
  have Hmm := Lib.hid hm
  unfold fnExactSolveOn_r0 fnExactSolveOn_r1 fnExactSolveOn_r2
  obtain ⟨F, hF⟩ : ∃ F, freeL n = F := ⟨_, rfl⟩
  rw [hF]
  have HF := Lib.hid hF
  clear hF
  obtain ⟨w0, hw0⟩ : ∃ w0, w0 = ((w).alloc (.cells #[.int .i64 p.labels, .int .i64 p.degree, pa, pb] 74)).alloc (.cells #[ve, vi, vn] 43) := ⟨_, rfl⟩
  have hb0 : Below w.heap.size w w0 := by rw [hw0]; exact (((Below.refl _ _).alloc (by simp <;> omega) _).alloc (by simp <;> omega) _)
  have H := Lib.hid (h.keep hb0)
  obtain ⟨h1, h2, h3⟩ := h.keep hb0
  obtain ⟨A, c, rfl, hlc, hm, hA⟩ := h1
  obtain ⟨A2, c2, rfl, _, hm2, _⟩ := h2
  obtain ⟨A3, c3, rfl, _, hm3, _⟩ := h3
  unfold maxLen at hm hm2 hm3
  have hkP := hp.keep hb0
  have HP := Lib.hid hkP
  obtain ⟨P0, pz0, rfl, hlP0, hmP0, hPe0⟩ := id hkP.1
  unfold maxLen at hmP0
  have HPe0 := Lib.hid hPe0
  clear hPe0
  obtain ⟨P1, pz1, rfl, hlP1, hmP1, hPe1⟩ := id hkP.2
  unfold maxLen at hmP1
  have HPe1 := Lib.hid hPe1
  clear hPe1
  clear hkP hp
  have p00 : ∀ W, Since w0 W → W.cell? ⟨w.heap.size, 0, none⟩ = some (.int .i64 p.labels) := have_cell (by rw [hw0]; simp)
  have p01 : ∀ W, Since w0 W → W.cell? ⟨w.heap.size, 1, none⟩ = some (.int .i64 p.degree) := have_cell (by rw [hw0]; simp)
  have p02 : ∀ W, Since w0 W → W.cell? ⟨w.heap.size, 2, none⟩ = some (.slice P0 p.nodes.length pz0) := have_cell (by rw [hw0]; simp)
  have p03 : ∀ W, Since w0 W → W.cell? ⟨w.heap.size, 3, none⟩ = some (.slice P1 p.edges.length pz1) := have_cell (by rw [hw0]; simp)
  have p10 : ∀ W, Since w0 W → W.cell? ⟨w.heap.size + 1, 0, none⟩ = some (.slice A n.ends.length c) := have_cell (by rw [hw0]; simp)
  have p11 : ∀ W, Since w0 W → W.cell? ⟨w.heap.size + 1, 1, none⟩ = some (.slice A2 n.ids.length c2) := have_cell (by rw [hw0]; simp)
  have p12 : ∀ W, Since w0 W → W.cell? ⟨w.heap.size + 1, 2, none⟩ = some (.slice A3 n.inputs.length c3) := have_cell (by rw [hw0]; simp)
  have Hb0 := Lib.hid hb0
  have Hw0 := Lib.hid hw0
  have HA := Lib.hid hA
  clear hA h
  clear hb0 hw0
  have HPp := Lib.hid (show ∀ X, Since w0 X → PrIn X (.slice P0 p.nodes.length pz0) (.slice P1 p.edges.length pz1) p from fun X hX => HP.out.keep hX)
  have HNn := Lib.hid (show ∀ X, Since w0 X → NetIn X (.slice A n.ends.length c) (.slice A2 n.ids.length c2) (.slice A3 n.inputs.length c3) n from fun X hX => H.out.keep hX.below)
  clear hsz hpz hm
  have hwB : w.heap.size ≤ w0.heap.size := Hb0.out.size
  go_enter Tryz.func49, Tryz.ntmps49
  go_upto_region 1 with (fail)
  rw [← Hw0.out]
  have hs : Since w0 w0 := since_refl _
  refine wp_region_chainflow (w0 := w0) 6 [false, false, false, true, false, true] (by kernel_rfl) (by kernel_rfl) (hs) ?_
  simp only [selF, selT, List.take_succ_cons, List.take_zero, List.drop_succ_cons, List.drop_zero]
  refine pflow_val (v := ?_) rfl ?_ ?_; rotate_left; (intro W hW; go_simp; with_reducible rfl)
  simp only [Act.put, List.setIfInBounds_toArray, List.set_cons_succ, List.set_cons_zero]
  refine pflow_val (v := ?_) rfl ?_ ?_; rotate_left; (intro W hW; go_simp; with_reducible rfl)
  simp only [Act.put, List.setIfInBounds_toArray, List.set_cons_succ, List.set_cons_zero]
  refine pflow_val (v := ?_) rfl ?_ ?_; rotate_left; (intro W hW; go_simp; with_reducible rfl)
  simp only [Act.put, List.setIfInBounds_toArray, List.set_cons_succ, List.set_cons_zero]
  refine pflow_val (v := ?_) rfl ?_ ?_; rotate_left; (intro W hW; go_simp; with_reducible rfl)
  simp only [Act.put, List.setIfInBounds_toArray, List.set_cons_succ, List.set_cons_zero]
  obtain ⟨W, hWd⟩ : ∃ W, W = World.drew w0 := ⟨_, rfl⟩
  rw [← hWd]
  have hW : Since w0 W := by rw [hWd]; exact since_drew (hs)
  clear hWd
  refine Or.inl ⟨rfl, ?_⟩
  go_simp
  (with_reducible refine (soEmpty_any _ _ _ n _ (HNn.out _ hW) Hsr.out.1 Hsr.out.2).mono ?_)
  rintro e W' ⟨u1, S1, rfl, ho1, hb1⟩
  refine ⟨_, rfl, hW.trans hb1, ?_⟩
  replace hW := hW.trans hb1
  obtain ⟨AU, mU, cU, rfl⟩ := lawII.one ho1
  have HO1 := Lib.hid (HF.out ▸ ho1.read)
  have HZ1 : Hid (w.heap.size ≤ W'.heap.size) := Nat.le_trans hwB (Since.below hW).size
  clear ho1 hb1
  (try simp only [Act.put, List.setIfInBounds_toArray, List.set_cons_succ, List.set_cons_zero])
  refine Or.inl ⟨rfl, ?_⟩
  go_simp
  (with_reducible refine (sfSpec_any _ _ _ _ _ _ p n F most _ (HPp.out _ hW) (HNn.out _ hW) HO1.out Hmm.out Hpz.out).mono ?_)
  rintro e W' ⟨uR, SR, rfl, hoR, hlR, hbR⟩
  refine ⟨_, rfl, hW.trans hbR, ?_⟩
  replace hW := hW.trans hbR
  obtain ⟨AR, mR, cR, rfl⟩ := lawII.one hoR
  have HOR := Lib.hid (lawII.mono hoR HZ1.out)
  have HLR := Lib.hid hlR
  clear hoR hbR hlR
  (try simp only [Act.put, List.setIfInBounds_toArray, List.set_cons_succ, List.set_cons_zero])
  have HW0 := Lib.hid hW
  refine ⟨fun W => Since W' W, since_refl _, ?_⟩
  refine flow_val (v := ?_) rfl ?_ ?_; rotate_left; (intro W hW; go_simp; with_reducible rfl)
  simp only [Act.put, List.setIfInBounds_toArray, List.set_cons_succ, List.set_cons_zero]
  refine flow_val (v := ?_) rfl ?_ ?_; rotate_left; (intro W hW; go_simp; with_reducible rfl)
  simp only [Act.put, List.setIfInBounds_toArray, List.set_cons_succ, List.set_cons_zero]
  refine flow_val (v := ?_) rfl ?_ ?_; rotate_left; (intro W hW; go_simp; with_reducible rfl)
  simp only [Act.put, List.setIfInBounds_toArray, List.set_cons_succ, List.set_cons_zero]
  refine flow_val (v := ?_) rfl ?_ ?_; rotate_left; (intro W hW; go_simp; with_reducible rfl)
  simp only [Act.put, List.setIfInBounds_toArray, List.set_cons_succ, List.set_cons_zero]
  refine flow_val (v := ?_) rfl ?_ ?_; rotate_left; (intro W hW; go_simp; with_reducible rfl)
  simp only [Act.put, List.setIfInBounds_toArray, List.set_cons_succ, List.set_cons_zero]
  refine flow_val (v := ?_) rfl ?_ ?_; rotate_left; (intro W hW; go_simp; with_reducible rfl)
  simp only [Act.put, List.setIfInBounds_toArray, List.set_cons_succ, List.set_cons_zero]
  clear hW
  intro W hW
  have HW := Lib.hid hW
  clear hW hs
  go_wp2
  go_ret3
  exact ⟨_, _, rfl, lawII.keep HOR.out HW.out.below, HLR.out, Since.after Hb0.out (HW0.out.after HW.out)⟩
end Go.Proofs.YtomnaabadohecaaGreat
