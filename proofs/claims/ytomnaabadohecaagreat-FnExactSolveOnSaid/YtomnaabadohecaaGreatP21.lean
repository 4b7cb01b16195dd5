/- Parts of the proof: walks of functions and plain laws. -/
import Derived.Test.YtomnaabadohecaaGreatP19
import Derived.Test.YtomnaabadohecaaGreatP20
import Derived.Test.YtomnaabadohecaaGreatP10
import Derived.Test.YtomnaabadohecaaGreatP5
namespace Go.Proofs.YtomnaabadohecaaGreat
open Go.RowKit
/-! counting solutions -/
def soA {σ : Type} (nx : σ → List (List Int) → Bool × σ) (p : Prob) (ends : List (List (Int × Int))) (ports : List (Int × Int)) (most : Int) (fr : Bool) (s : σ) (l : List (List Int)) (pos st : Int) : σ × SoR :=
  if fr = true then (if holdsB p ends l = true then soAll nx p ends ports most (soMeas most pos st) s l pos st else (s, 2, l, pos, st)) else soAll nx p ends ports most (soMeas most pos st) s l (pos - 1) st
theorem soA_next {σ : Type} (nx : σ → List (List Int) → Bool × σ) (p : Prob) (ends : List (List (Int × Int))) (ports : List (Int × Int)) (most : Int) (fr : Bool) (s : σ) (l : List (List Int)) (pos st : Int) (hp : 0 ≤ pos) (hp2 : pos ≤ ports.length) (hst : st ≤ most) (r : SoR) (hr : soQ p ends ports most fr l pos st = r) :
    soA nx p ends ports most fr s l pos st = (if r.1 = 1 then (if (nx s r.2.1).1 = true then soA nx p ends ports most false (nx s r.2.1).2 r.2.1 r.2.2.1 r.2.2.2 else ((nx s r.2.1).2, r)) else (s, r)) ∧
      (r.1 = 1 → r.2.2.1 = ports.length ∧ st ≤ r.2.2.2 ∧ r.2.2.2 ≤ most ∧ soMeas most r.2.2.1 r.2.2.2 + (if fr = true then 0 else 1) ≤ soMeas most pos st) ∧ (r.1 = 1 ∨ r.1 = 2 ∨ r.1 = 3) := by
  unfold soA soQ at *
  cases fr
  · rw [if_neg (by simp)] at hr ⊢
    have hf : soMeas most (pos - 1) st ≤ soMeas most pos st := by unfold soMeas; omega
    have hg := soAll_go nx p ends ports most (soMeas most pos st) (soMeas most pos st) s l (pos - 1) st hst (by omega) (by omega) hf hf
    have he := soGo_end p ends ports most (soMeas most pos st) l (pos - 1) st hst (by omega) (by omega) hf
    rw [hr] at hg he
    obtain ⟨e1, e2, e3, e4, e5, e6, e7⟩ := he
    refine ⟨?_, fun h1 => ⟨e6 h1, e4, e1, ?_⟩, e7⟩
    · rw [hg]
      simp only [Bool.false_eq_true, if_false]
      by_cases h1 : r.1 = 1
      · have h6 := e6 h1
        rw [if_pos h1, if_pos h1]
        split
        · exact soAll_fuel nx p ends ports most _ _ _ _ _ _ e1 (by omega) (by unfold soMeas at *; omega) (by unfold soMeas at *; omega)
        · rfl
      · rw [if_neg h1, if_neg h1]
    · have h6 := e6 h1
      simp only [Bool.false_eq_true, if_false]
      unfold soMeas at *; omega
  · rw [if_pos rfl] at hr ⊢
    by_cases hh : holdsB p ends l = true
    · rw [if_pos hh] at hr ⊢
      have hg := soAll_go nx p ends ports most (soMeas most pos st) (soMeas most pos st) s l pos st hst (by omega) hp2 (Nat.le_refl _) (Nat.le_refl _)
      have he := soGo_end p ends ports most (soMeas most pos st) l pos st hst (by omega) hp2 (Nat.le_refl _)
      rw [hr] at hg he
      obtain ⟨e1, e2, e3, e4, e5, e6, e7⟩ := he
      refine ⟨?_, fun h1 => ⟨e6 h1, e4, e1, by simpa using e5⟩, e7⟩
      rw [hg]
      by_cases h1 : r.1 = 1
      · have h6 := e6 h1
        rw [if_pos h1, if_pos h1]
        split
        · rw [if_neg (by simp)]
          exact soAll_fuel nx p ends ports most _ _ _ _ _ _ e1 (by omega) (by unfold soMeas at *; omega) (by unfold soMeas at *; omega)
        · rfl
      · rw [if_neg h1, if_neg h1]
    · rw [if_neg hh] at hr ⊢
      subst hr
      exact ⟨by simp, fun h1 => by simp at h1, .inr (.inl rfl)⟩
theorem soR_A {σ : Type} (nx : σ → List (List Int) → Bool × σ) (p : Prob) (ends : List (List (Int × Int))) (ports : List (Int × Int)) (most : Int) (s : σ) (l : List (List Int)) : soR nx p ends ports most s l = soA nx p ends ports most true s l 0 0 := rfl
theorem shape_free {n : Net} : Shape n.ends (freeL n) := by
  refine ⟨freeL_len n, fun v es row hes hr => ?_⟩
  rw [freeL_get hes] at hr
  cases hr
  simp
theorem inr_free {n : Net} {hi : Int} (h : -1 ≤ hi) : InR hi (freeL n) := by
  intro v row i x hv hx
  unfold freeL at hv
  rw [List.getElem?_map] at hv
  cases he : n.ends[v]? with
  | none => rw [he] at hv; cases hv
  | some es =>
    rw [he] at hv
    cases hv
    have := List.mem_of_getElem? hx
    obtain ⟨-, rfl⟩ := List.mem_replicate.1 this
    omega
theorem netOk_r6 {n : Net} (h : netOk n = true) : n.ends.length ≤ 40 ∧ ∀ (v : Nat) (es : List (Int × Int)), n.ends[v]? = some es → es.length ≤ 6 := by
  have h' := h
  unfold netOk at h
  simp only [Bool.and_eq_true, List.all_eq_true, inB_iff] at h
  refine ⟨by omega, fun v es hes => ?_⟩
  have := h.2 v (List.mem_range.2 (lt_of_get hes))
  rw [getD_of hes] at this
  unfold rowOkB at this
  simp only [Bool.and_eq_true, decide_eq_true_eq] at this
  exact this.1
theorem free_r6 {n : Net} (h : netOk n = true) : (freeL n).length ≤ 40 ∧ ∀ (v : Nat) (row : List Int), (freeL n)[v]? = some row → row.length ≤ 6 := by
  obtain ⟨h1, h2⟩ := netOk_r6 h
  refine ⟨by rw [freeL_len]; exact h1, fun v row hv => ?_⟩
  obtain ⟨es, hes⟩ := getx n.ends v (by rw [← freeL_len]; exact lt_of_get hv)
  rw [shape_free.2 v es row hes hv]
  exact h2 v es hes
theorem freeP_len {l : List (List Int)} (h1 : l.length ≤ 40) (h2 : ∀ (v : Nat) (row : List Int), l[v]? = some row → row.length ≤ 6) : (freeP l).length ≤ 1000 := by
  have := freeU_le h2 l.length
  unfold freeP
  omega
theorem prOk_facts {p : Prob} (h : prOk p = true) : (1 ≤ p.labels ∧ p.labels ≤ 8) ∧ Strict p.edges := by
  unfold prOk at h
  simp only [Bool.and_eq_true, inB_iff] at h
  exact ⟨h.1, cfgs_strict h.2.2.2⟩
def cntNx (c : Int) (_ : List (List Int)) : Bool × Int := (true, wrap64 (c + 1))
def csOk (p : Prob) (n : Net) (most : Int) : Bool := prOk p && netOk n && inB 0 200000 most
def csR (p : Prob) (n : Net) (most : Int) : Int × SoR := soR cntNx p n.ends (freeP (freeL n)) most 0 (freeL n)
def fnExactCountSolutions_r0 (p : Prob) (n : Net) (most : Int) : Int := if csOk p n most = true then (csR p n most).1 else 0
def fnExactCountSolutions_r1 (p : Prob) (n : Net) (most : Int) : Int := if csOk p n most = true then (csR p n most).2.1 else 0
theorem SolM.mono {w : World} {sb : Nat} {vs : Array Value} {l : List (List Int)} {ports : List (Int × Int)} {ul uf : Value} {SL : List Nat} {B B' : Nat} (h : SolM w sb vs l ports ul uf SL B) (hB : B' ≤ B) : SolM w sb vs l ports ul uf SL B' := by
  obtain ⟨h1, h2, h3, h4⟩ := h
  exact ⟨h1, lawII.mono h2 hB, h3, h4⟩
theorem SolM.other {w : World} {sb : Nat} {vs : Array Value} {l : List (List Int)} {ports : List (Int × Int)} {ul uf : Value} {SL : List Nat} {B b : Nat} (h : SolM w sb vs l ports ul uf SL B) (hb : b < sb) (hS : b ∉ SL) (i : Nat) (u : Value) : SolM (w.setCell ⟨b, i, none⟩ u) sb vs l ports ul uf SL B := by
  obtain ⟨h1, h2, h3, T, h4⟩ := h
  exact ⟨h1.set (by show b ≠ sb; omega), lawII.stable h2 fun k hk => Below.heap_setCell _ _ _ k (fun e => hS ((show k = b from e) ▸ hk)), h3, T, RowLaw.put lawE h4 (by show b < sb + 1; omega) u⟩
theorem cntC_enters : ∀ args w, (callFunc 103 args).run Tryz.prog w = .ok (.enter 103 args) w := enters_of Tryz.func103 (by kernel_rfl) rfl
theorem cntC_any (b : Nat) (c : Int) (w : World) (h : I1 w b c) : Calls Tryz.prog 103 #[.pointer (some ⟨b, 0, none⟩)] w fun e w' => e = .returned (.bool true) ∧ w' = w.setCell ⟨b, 0, none⟩ (.int .i64 (wrap64 (c + 1))) := by
  obtain ⟨h1, h2⟩ := h.cells
  go_enter Tryz.func103, Tryz.ntmps103
  go_wp2
  go_ret
  exact ⟨rfl, rfl⟩
theorem ret_two {a b a' b' : Int} (h : a = a') (h' : b = b') : Ending.returned (.tuple #[.int .i64 a, .int .i64 b]) = .returned (.tuple #[.int .i64 a', .int .i64 b']) := by rw [h, h']
theorem i1_only {W W' : World} {b : Nat} {x : Int} {S : List Nat} (h : I1 W b x) (ho : Only S W W') (hb : b ∉ S) : I1 W' b x := (ho.block b h.lt hb).trans h
theorem cntRun_any (p : Prob) (n : Net) (F : List (List Int)) (PT : List (Int × Int)) (most : Int) (sb : Nat) (pa pb va vb vc ul uf : Value) (SL : List Nat) (bc B0 : Nat) (w0 W : World) (R : Int × SoR) (h0 : Since w0 W)
    (hPp : ∀ X, Since w0 X → PrIn X pa pb p) (hNn : ∀ X, Since w0 X → NetIn X va vb vc n) (hS : SolM W sb (arrI p pa pb va vb vc ul uf 0) F PT ul uf SL B0) (hb1 : w0.heap.size ≤ bc) (hb2 : bc < B0) (hb3 : B0 ≤ sb) (hI : I1 W bc 0)
    (hn : netOk n = true) (hst : Strict p.edges) (hel : p.edges.length ≤ 1048576) (hlab : 1 ≤ p.labels ∧ p.labels ≤ 8) (hsh : Shape n.ends F) (hin : InR (p.labels - 1) F) (hpo : PortsIn n.ends PT) (hpl : PT.length ≤ 1000) (hmo : 0 ≤ most ∧ most ≤ 200000)
    (hr6 : ∀ (v : Nat) (es : List (Int × Int)), n.ends[v]? = some es → es.length ≤ 6) (hR : soR cntNx p n.ends PT most 0 F = R) :
    Calls Tryz.prog 102 #[.pointer (some ⟨sb, 0, none⟩), .int .i64 most, .func (.func 103) #[] #[.pointer (some ⟨bc, 0, none⟩)]] W fun e w' => e = .returned (.int .i64 R.2.1) ∧ I1 w' bc R.1 ∧ Below w0.heap.size W w' := by
  have hbS : bc ∉ SL := fun hk => by have := lawII.range hS.2.1 bc hk; omega
  have key := run_any cntNx (fun c X => I1 X bc c) 103 #[.pointer (some ⟨bc, 0, none⟩)] p n pa pb va vb vc ul uf sb SL w0.heap.size PT most 0 F W cntC_enters (by omega)
    (fun X hX => hPp X (Below.trans h0 hX)) (fun X hX => hNn X (Below.trans h0 hX))
    (fun s W1 W2 hJ ho => i1_only (show I1 W1 bc s from hJ) ho (by intro hk; rcases List.mem_cons.1 hk with h | h; omega; exact hbS h))
    (fun s l st W1 hb hS1 hJ => (cntC_any bc s W1 (show I1 W1 bc s from hJ)).mono fun e W2 ⟨he, hW2⟩ => by
      rw [hW2]
      exact ⟨by rw [he]; rfl, I1.set (show I1 W1 bc s from hJ) _, hS1.other (by omega) hbS 0 _, (Below.refl _ _).setCell (by show w0.heap.size ≤ bc; exact hb1) _⟩)
    (hS.mono (by omega)) hI hn hst hel hlab hsh hin hpo hpl hmo hr6
  rw [hR] at key
  exact key.mono fun e W2 ⟨h1, _, h3, h4⟩ => ⟨h1, h3, h4⟩
set_option maxRecDepth 100000 in
set_option maxHeartbeats 8000000 in
theorem fnExactCountSolutions_impl (pa pb ve vi vn : Value) (p : Prob) (n : Net) (most : Int) (w : World) (hp : PrIn w pa pb p) (h : NetIn w ve vi vn n) (_ : -9223372036854775808 ≤ most ∧ most ≤ 9223372036854775807) (hpz : szPr p ≤ 1048576) (hsz : szNet n ≤ 1048576) :
    Calls Tryz.prog 39 #[.agg #[.int .i64 p.labels, .int .i64 p.degree, pa, pb], .agg #[ve, vi, vn], .int .i64 most] w fun e w' => e = .returned (.tuple #[.int .i64 (fnExactCountSolutions_r0 p n most), .int .i64 (fnExactCountSolutions_r1 p n most)]) ∧ Below w.heap.size w w' := by
  have hel : p.edges.length ≤ 1048576 := by unfold szPr szII at hpz; omega
  have Hnl := Lib.hid (szNet_ids hsz)
  obtain ⟨w0, hw0⟩ : ∃ w0, w0 = ((w).alloc (.cells #[.int .i64 p.labels, .int .i64 p.degree, pa, pb] 74)).alloc (.cells #[ve, vi, vn] 43) := ⟨_, rfl⟩
  have hb0 : Below w.heap.size w w0 := by rw [hw0]; exact (((Below.refl _ _).alloc (by simp <;> omega) _).alloc (by simp <;> omega) _)
  have H := Lib.hid (h.keep hb0)
  obtain ⟨h1, h2, h3⟩ := h.keep hb0
  obtain ⟨A, c, rfl, hlc, hm, hA⟩ := h1
  obtain ⟨A2, c2, rfl, _, hm2, _⟩ := h2
  obtain ⟨A3, c3, rfl, _, hm3, _⟩ := h3
  unfold maxLen at hm hm2 hm3
  have hkP := hp.keep hb0
  have HP := Lib.hid hkP
  obtain ⟨P0, pz0, rfl, hlP0, hmP0, hPe0⟩ := id hkP.1
  unfold maxLen at hmP0
  have HPe0 := Lib.hid hPe0
  clear hPe0
  obtain ⟨P1, pz1, rfl, hlP1, hmP1, hPe1⟩ := id hkP.2
  unfold maxLen at hmP1
  have HPe1 := Lib.hid hPe1
  clear hPe1
  clear hkP hp
  have p00 : ∀ W, Since w0 W → W.cell? ⟨w.heap.size, 0, none⟩ = some (.int .i64 p.labels) := have_cell (by rw [hw0]; simp)
  have p01 : ∀ W, Since w0 W → W.cell? ⟨w.heap.size, 1, none⟩ = some (.int .i64 p.degree) := have_cell (by rw [hw0]; simp)
  have p02 : ∀ W, Since w0 W → W.cell? ⟨w.heap.size, 2, none⟩ = some (.slice P0 p.nodes.length pz0) := have_cell (by rw [hw0]; simp)
  have p03 : ∀ W, Since w0 W → W.cell? ⟨w.heap.size, 3, none⟩ = some (.slice P1 p.edges.length pz1) := have_cell (by rw [hw0]; simp)
  have p10 : ∀ W, Since w0 W → W.cell? ⟨w.heap.size + 1, 0, none⟩ = some (.slice A n.ends.length c) := have_cell (by rw [hw0]; simp)
  have p11 : ∀ W, Since w0 W → W.cell? ⟨w.heap.size + 1, 1, none⟩ = some (.slice A2 n.ids.length c2) := have_cell (by rw [hw0]; simp)
  have p12 : ∀ W, Since w0 W → W.cell? ⟨w.heap.size + 1, 2, none⟩ = some (.slice A3 n.inputs.length c3) := have_cell (by rw [hw0]; simp)
  have Hb0 := Lib.hid hb0
  have Hw0 := Lib.hid hw0
  have HA := Lib.hid hA
  clear hA h
  clear hb0 hw0
  have HPp := Lib.hid (show ∀ X, Since w0 X → PrIn X (.slice P0 p.nodes.length pz0) (.slice P1 p.edges.length pz1) p from fun X hX => HP.out.keep hX)
  have HNn := Lib.hid (show ∀ X, Since w0 X → NetIn X (.slice A n.ends.length c) (.slice A2 n.ids.length c2) (.slice A3 n.inputs.length c3) n from fun X hX => H.out.keep hX.below)
  clear hsz hpz
  go_enter Tryz.func39, Tryz.ntmps39
  go_upto_region 1 with (fail)
  rw [← Hw0.out]
  refine wp_region_flow0 13 (Since w0) (since_refl _) ?_
  simp only [List.take_succ_cons, List.take_zero, List.drop_succ_cons, List.drop_zero]
  refine flow_val (v := ?_) rfl ?_ ?_; rotate_left; (intro W hW; go_simp; with_reducible rfl)
  simp only [Act.put, List.setIfInBounds_toArray, List.set_cons_succ, List.set_cons_zero]
  refine flow_op ?_ rfl ?_ ?_; rotate_left; (intro W hW; unfold Gives; go_simp; (with_reducible refine (isProblem_any _ _ p W (HPp.out W hW)).mono ?_); rintro e W' ⟨rfl, hb3⟩; first | (refine ⟨?_, Since.trans hW hb3⟩; with_reducible rfl) | (subst hb3; refine ⟨?_, hW⟩; with_reducible rfl))
  simp only [Act.put, List.setIfInBounds_toArray, List.set_cons_succ, List.set_cons_zero]
  refine flow_val (v := ?_) rfl ?_ ?_; rotate_left; (intro W hW; go_simp; with_reducible rfl)
  simp only [Act.put, List.setIfInBounds_toArray, List.set_cons_succ, List.set_cons_zero]
  refine flow_val (v := ?_) rfl ?_ ?_; rotate_left; (intro W hW; go_simp; with_reducible rfl)
  simp only [Act.put, List.setIfInBounds_toArray, List.set_cons_succ, List.set_cons_zero]
  refine flow_gval (v := ?_) rfl rfl ?_ ?_; rotate_left; (intro hb; intro W hW; go_simp; with_reducible rfl)
  simp only [Act.put, List.setIfInBounds_toArray, List.set_cons_succ, List.set_cons_zero]
  refine flow_gop (v := ?_) rfl rfl ?_ ?_; rotate_left; (intro hb; intro W hW; unfold Gives; go_simp; (with_reducible refine (isNetwork_any _ _ _ n W (HNn.out W hW) Hnl.out).mono ?_); rintro e W' ⟨rfl, hb3⟩; first | (refine ⟨?_, Since.trans hW hb3⟩; with_reducible rfl) | (subst hb3; refine ⟨?_, hW⟩; with_reducible rfl))
  simp only [Act.put, List.setIfInBounds_toArray, List.set_cons_succ, List.set_cons_zero]
  refine flow_gval (v := ?_) rfl rfl ?_ ?_; rotate_left; (intro hb; intro W hW; go_simp; with_reducible rfl)
  simp only [Act.put, List.setIfInBounds_toArray, List.set_cons_succ, List.set_cons_zero]
  first | refine flow_or rfl rfl ?_ | (refine flow_val (v := ?_) rfl ?_ ?_; rotate_left; (intro W hW; go_simp; with_reducible rfl))
  simp only [Act.put, List.setIfInBounds_toArray, List.set_cons_succ, List.set_cons_zero]
  refine flow_val (v := ?_) rfl ?_ ?_; rotate_left; (intro W hW; go_simp; with_reducible rfl)
  simp only [Act.put, List.setIfInBounds_toArray, List.set_cons_succ, List.set_cons_zero]
  refine flow_gval (v := ?_) rfl rfl ?_ ?_; rotate_left; (intro hb; intro W hW; go_simp; with_reducible rfl)
  simp only [Act.put, List.setIfInBounds_toArray, List.set_cons_succ, List.set_cons_zero]
  refine flow_gop (v := ?_) rfl rfl ?_ ?_; rotate_left; (intro hb; intro W hW; unfold Gives; go_simp; (with_reducible refine (within_p _ _ _ W).mono ?_); rintro e W' ⟨rfl, hb3⟩; first | (refine ⟨?_, Since.trans hW hb3⟩; with_reducible rfl) | (subst hb3; refine ⟨?_, hW⟩; with_reducible rfl))
  simp only [Act.put, List.setIfInBounds_toArray, List.set_cons_succ, List.set_cons_zero]
  refine flow_gval (v := ?_) rfl rfl ?_ ?_; rotate_left; (intro hb; intro W hW; go_simp; with_reducible rfl)
  simp only [Act.put, List.setIfInBounds_toArray, List.set_cons_succ, List.set_cons_zero]
  first | refine flow_or rfl rfl ?_ | (refine flow_val (v := ?_) rfl ?_ ?_; rotate_left; (intro W hW; go_simp; with_reducible rfl))
  simp only [Act.put, List.setIfInBounds_toArray, List.set_cons_succ, List.set_cons_zero]
  intro W hW
  cases hg : (!prOk p || !netOk n || !inB 0 200000 most)
  · have hok : csOk p n most = true := by unfold csOk; revert hg; cases prOk p <;> cases netOk n <;> cases inB 0 200000 most <;> simp
    simp only [Bool.or_eq_false_iff, Bool.not_eq_false'] at hg
    obtain ⟨⟨hp1, hn⟩, hm⟩ := hg
    have hmo := inB_iff.1 hm
    obtain ⟨hlab, hst⟩ := prOk_facts hp1
    obtain ⟨hn40, hn6⟩ := netOk_r6 hn
    obtain ⟨hf40, hf6⟩ := free_r6 hn
    have Hf6 := Lib.hid hf6
    have Hn6 := Lib.hid hn6
    have Hst := Lib.hid hst
    have Hpl := Lib.hid (freeP_len hf40 hf6)
    have Hpo := Lib.hid (freeP_in (shape_free (n := n)))
    obtain ⟨F, hF⟩ : ∃ F, freeL n = F := ⟨_, rfl⟩
    obtain ⟨PT, hPT⟩ : ∃ PT, freeP F = PT := ⟨_, rfl⟩
    have Hsh : Hid (Shape n.ends F) := by rw [← hF]; exact shape_free
    have Hin : Hid (InR (p.labels - 1) F) := by rw [← hF]; exact inr_free (by omega)
    obtain ⟨R, hR⟩ : ∃ R, csR p n most = R := ⟨_, rfl⟩
    have HR : Hid (soR cntNx p n.ends PT most 0 F = R) := by show _ = _; rw [← hR, ← hPT, ← hF]; rfl
    have Hr0 : Hid (fnExactCountSolutions_r0 p n most = R.1) := by show _ = _; unfold fnExactCountSolutions_r0; rw [if_pos hok, hR]
    have Hr1 : Hid (fnExactCountSolutions_r1 p n most = R.2.1) := by show _ = _; unfold fnExactCountSolutions_r1; rw [if_pos hok, hR]
    rw [hF] at Hf6 Hpl Hpo hf40
    rw [hPT] at Hpl Hpo
    have HF := Lib.hid hF
    have HPT := Lib.hid hPT
    obtain ⟨bc, hbc⟩ : ∃ bc, bc = W.heap.size := ⟨_, rfl⟩
    obtain ⟨w2, hw2⟩ : ∃ w2, w2 = W.alloc (.cells #[.int .i64 0] 3) := ⟨_, rfl⟩
    have Hi : Hid (I1 w2 bc 0) := by rw [hw2, hbc]; exact I1.new W 0
    have hbw : w0.heap.size ≤ bc := by rw [hbc]; exact (Since.below hW).size
    have hs2 : Since w0 w2 := by rw [hw2]; exact since_alloc _ hW
    have hlt : bc < w2.heap.size := Hi.out.lt
    have Hs2 := Lib.hid hs2
    have Hbw := Lib.hid hbw
    have Hbc := Lib.hid hbc
    have Hw2 := Lib.hid hw2
    clear hw2 hbc hW hbw hF hPT hR hm hp1 hst hf6 hn6 hok
    go_upto_region 4 with (fail)
    rw [← Hbc.out, ← Hw2.out]
    have Hhn := Lib.hid hn
    have Hlab := Lib.hid hlab
    have Hmo := Lib.hid hmo
    have Hel := Lib.hid hel
    refine wp_region_chain0 (w0 := w0) 8 [false, false, false, true, true, false, false, true] (by kernel_rfl) (by kernel_rfl) (Hs2.out) ?_
    simp only [selF, selT, List.take_succ_cons, List.take_zero, List.drop_succ_cons, List.drop_zero]
    refine pflow_val (v := ?_) rfl ?_ ?_; rotate_left; (intro W hW; go_simp; with_reducible rfl)
    simp only [Act.put, List.setIfInBounds_toArray, List.set_cons_succ, List.set_cons_zero]
    refine pflow_val (v := ?_) rfl ?_ ?_; rotate_left; (intro W hW; go_simp; with_reducible rfl)
    simp only [Act.put, List.setIfInBounds_toArray, List.set_cons_succ, List.set_cons_zero]
    refine pflow_val (v := ?_) rfl ?_ ?_; rotate_left; (intro W hW; go_simp; with_reducible rfl)
    simp only [Act.put, List.setIfInBounds_toArray, List.set_cons_succ, List.set_cons_zero]
    refine pflow_val (v := ?_) rfl ?_ ?_; rotate_left; (intro W hW; go_simp; with_reducible rfl)
    simp only [Act.put, List.setIfInBounds_toArray, List.set_cons_succ, List.set_cons_zero]
    refine pflow_val (v := ?_) rfl ?_ ?_; rotate_left; (intro W hW; go_simp; with_reducible rfl)
    simp only [Act.put, List.setIfInBounds_toArray, List.set_cons_succ, List.set_cons_zero]
    obtain ⟨W, hWd⟩ : ∃ W, W = World.drew w2 := ⟨_, rfl⟩
    rw [← hWd]
    have hW : Since w0 W := by rw [hWd]; exact since_drew (Hs2.out)
    refine Or.inl ⟨rfl, ?_⟩
    go_simp
    (with_reducible refine (unlabeled_any _ _ _ n _ (HNn.out _ (Hs2.out.after (since_drew (since_refl _)))) (by omega) (fun v es hv => Nat.le_trans (Hn6.out v es hv) (by omega))).mono ?_)
    rintro e W' ⟨u1, S1, rfl, ho1, hb1⟩
    refine ⟨_, rfl, (Hs2.out.after (since_drew (since_refl _))).trans hb1, ?_⟩
    replace hW := (Hs2.out.after (since_drew (since_refl _))).trans hb1
    obtain ⟨AU, mU, cU, rfl⟩ := lawII.one ho1
    have HO1 := Lib.hid (HF.out ▸ ho1.read)
    have HI1 : Hid (I1 W' bc 0) := I1.since (Hi.out.since (since_drew (since_refl _))) hb1
    have HL1 : Hid (bc < W'.heap.size) := HI1.out.lt
    have HZ1 : Hid (w0.heap.size ≤ W'.heap.size) := (Since.below hW).size
    clear ho1 hb1
    (try simp only [Act.put, List.setIfInBounds_toArray, List.set_cons_succ, List.set_cons_zero])
    refine Or.inl ⟨rfl, ?_⟩
    go_simp
    (with_reducible refine (newSolver_any _ _ _ _ _ _ p n F _ (HPp.out _ hW) (HNn.out _ hW) HO1.out hf40 Hf6.out).mono ?_)
    rintro e W' ⟨sb, ul, uf, SL, rfl, hS, hsb, hb⟩
    refine ⟨_, rfl, hW.trans hb, ?_⟩
    replace hW := hW.trans hb
    have HI2 : Hid (I1 W' bc 0) := HI1.out.since hb
    rw [HPT.out] at hS
    have Hrun := Lib.hid (cntRun_any p n F PT most sb _ _ _ _ _ ul uf SL bc _ w0 W' R hW HPp.out HNn.out hS Hbw.out HL1.out hsb HI2.out Hhn.out Hst.out Hel.out Hlab.out Hsh.out Hin.out Hpo.out Hpl.out Hmo.out Hn6.out HR.out)
    clear hS hb hsb
    (try simp only [Act.put, List.setIfInBounds_toArray, List.set_cons_succ, List.set_cons_zero])
    refine Or.inl ⟨rfl, ?_⟩
    go_simp
    (with_reducible refine (Hrun.out).mono ?_)
    rintro e W' ⟨rfl, hI, hb⟩
    refine ⟨_, rfl, Below.trans hW hb, ?_⟩
    replace hW := Below.trans hW hb
    obtain ⟨i1, i2⟩ := hI.cells
    clear hb hI
    (try simp only [Act.put, List.setIfInBounds_toArray, List.set_cons_succ, List.set_cons_zero])
    simp only [TFlow]
    have HW := Lib.hid hW
    clear hW
    go_wp2
    go_ret2
    exact ⟨ret_two Hr0.out.symm Hr1.out.symm, Since.after Hb0.out HW.out⟩
  · have hk : csOk p n most = false := by unfold csOk; revert hg; cases prOk p <;> cases netOk n <;> cases inB 0 200000 most <;> simp
    have h0 : fnExactCountSolutions_r0 p n most = 0 := by unfold fnExactCountSolutions_r0; rw [hk]; rfl
    have h1 : fnExactCountSolutions_r1 p n most = 0 := by unfold fnExactCountSolutions_r1; rw [hk]; rfl
    have HW := Lib.hid hW
    clear hW
    go_wp2
    go_ret2
    exact ⟨ret_two h0.symm h1.symm, Since.after Hb0.out HW.out⟩
end Go.Proofs.YtomnaabadohecaaGreat
namespace Go.Proofs.YtomnaabadohecaaGreat
open Go.RowKit
/-! counting solutions: the reference -/
def frAt (w : World) (b : Nat) : Nat := match w.cell? ⟨b, 12, none⟩ with | some (.bool true) => 1 | _ => 0
theorem frAt_of {w : World} {b : Nat} {z : Bool} (h : w.cell? ⟨b, 12, none⟩ = some (.bool z)) : frAt w b = if z = true then 1 else 0 := by
  unfold frAt
  rw [h]
  cases z <;> rfl
theorem soMost_any (x : Int) (w : World) : Calls Tryz.prog 94 #[.int .i64 x] w fun e w' => e = .returned (.bool (inB 0 200000 x)) ∧ Below w.heap.size w w' := by
  go_enter Tryz.func94, Tryz.ntmps94
  go_wp2_with fail
  refine (l1In_p _ _ _ _).mono ?_
  rintro e w1 ⟨rfl, hb⟩
  go_wp2
  go_ret
  exact ⟨rfl, hb⟩
set_option maxRecDepth 100000 in
set_option maxHeartbeats 16000000 in
theorem fnExactCountSolutions_spec (pa pb ve vi vn : Value) (p : Prob) (n : Net) (most : Int) (w : World) (hp : PrIn w pa pb p) (h : NetIn w ve vi vn n) (_ : -9223372036854775808 ≤ most ∧ most ≤ 9223372036854775807) (hpz : szPr p ≤ 1048576) (hsz : szNet n ≤ 1048576) :
    Calls Tryz.prog 37 #[.agg #[.int .i64 p.labels, .int .i64 p.degree, pa, pb], .agg #[ve, vi, vn], .int .i64 most] w fun e w' => e = .returned (.tuple #[.int .i64 (fnExactCountSolutions_r0 p n most), .int .i64 (fnExactCountSolutions_r1 p n most)]) ∧ Below w.heap.size w w' := by
  have hel : p.edges.length ≤ 1048576 := by unfold szPr szII at hpz; omega
  have Hnl := Lib.hid (szNet_ids hsz)
  obtain ⟨w0, hw0⟩ : ∃ w0, w0 = ((w).alloc (.cells #[.int .i64 p.labels, .int .i64 p.degree, pa, pb] 74)).alloc (.cells #[ve, vi, vn] 43) := ⟨_, rfl⟩
  have hb0 : Below w.heap.size w w0 := by rw [hw0]; exact (((Below.refl _ _).alloc (by simp <;> omega) _).alloc (by simp <;> omega) _)
  have H := Lib.hid (h.keep hb0)
  obtain ⟨h1, h2, h3⟩ := h.keep hb0
  obtain ⟨A, c, rfl, hlc, hm, hA⟩ := h1
  obtain ⟨A2, c2, rfl, _, hm2, _⟩ := h2
  obtain ⟨A3, c3, rfl, _, hm3, _⟩ := h3
  unfold maxLen at hm hm2 hm3
  have hkP := hp.keep hb0
  have HP := Lib.hid hkP
  obtain ⟨P0, pz0, rfl, hlP0, hmP0, hPe0⟩ := id hkP.1
  unfold maxLen at hmP0
  have HPe0 := Lib.hid hPe0
  clear hPe0
  obtain ⟨P1, pz1, rfl, hlP1, hmP1, hPe1⟩ := id hkP.2
  unfold maxLen at hmP1
  have HPe1 := Lib.hid hPe1
  clear hPe1
  clear hkP hp
  have p00 : ∀ W, Since w0 W → W.cell? ⟨w.heap.size, 0, none⟩ = some (.int .i64 p.labels) := have_cell (by rw [hw0]; simp)
  have p01 : ∀ W, Since w0 W → W.cell? ⟨w.heap.size, 1, none⟩ = some (.int .i64 p.degree) := have_cell (by rw [hw0]; simp)
  have p02 : ∀ W, Since w0 W → W.cell? ⟨w.heap.size, 2, none⟩ = some (.slice P0 p.nodes.length pz0) := have_cell (by rw [hw0]; simp)
  have p03 : ∀ W, Since w0 W → W.cell? ⟨w.heap.size, 3, none⟩ = some (.slice P1 p.edges.length pz1) := have_cell (by rw [hw0]; simp)
  have p10 : ∀ W, Since w0 W → W.cell? ⟨w.heap.size + 1, 0, none⟩ = some (.slice A n.ends.length c) := have_cell (by rw [hw0]; simp)
  have p11 : ∀ W, Since w0 W → W.cell? ⟨w.heap.size + 1, 1, none⟩ = some (.slice A2 n.ids.length c2) := have_cell (by rw [hw0]; simp)
  have p12 : ∀ W, Since w0 W → W.cell? ⟨w.heap.size + 1, 2, none⟩ = some (.slice A3 n.inputs.length c3) := have_cell (by rw [hw0]; simp)
  have Hb0 := Lib.hid hb0
  have Hw0 := Lib.hid hw0
  have HA := Lib.hid hA
  clear hA h
  clear hb0 hw0
  have HPp := Lib.hid (show ∀ X, Since w0 X → PrIn X (.slice P0 p.nodes.length pz0) (.slice P1 p.edges.length pz1) p from fun X hX => HP.out.keep hX)
  have HNn := Lib.hid (show ∀ X, Since w0 X → NetIn X (.slice A n.ends.length c) (.slice A2 n.ids.length c2) (.slice A3 n.inputs.length c3) n from fun X hX => H.out.keep hX.below)
  clear hsz hpz
  go_enter Tryz.func37, Tryz.ntmps37
  go_upto_region 1 with (fail)
  rw [← Hw0.out]
  refine wp_region_flow0 13 (Since w0) (since_refl _) ?_
  simp only [List.take_succ_cons, List.take_zero, List.drop_succ_cons, List.drop_zero]
  refine flow_val (v := ?_) rfl ?_ ?_; rotate_left; (intro W hW; go_simp; with_reducible rfl)
  simp only [Act.put, List.setIfInBounds_toArray, List.set_cons_succ, List.set_cons_zero]
  refine flow_op ?_ rfl ?_ ?_; rotate_left; (intro W hW; unfold Gives; go_simp; (with_reducible refine (prGood_any _ _ p W (HPp.out W hW)).mono ?_); rintro e W' ⟨rfl, hb3⟩; first | (refine ⟨?_, Since.trans hW hb3⟩; with_reducible rfl) | (subst hb3; refine ⟨?_, hW⟩; with_reducible rfl))
  simp only [Act.put, List.setIfInBounds_toArray, List.set_cons_succ, List.set_cons_zero]
  refine flow_val (v := ?_) rfl ?_ ?_; rotate_left; (intro W hW; go_simp; with_reducible rfl)
  simp only [Act.put, List.setIfInBounds_toArray, List.set_cons_succ, List.set_cons_zero]
  refine flow_val (v := ?_) rfl ?_ ?_; rotate_left; (intro W hW; go_simp; with_reducible rfl)
  simp only [Act.put, List.setIfInBounds_toArray, List.set_cons_succ, List.set_cons_zero]
  refine flow_gval (v := ?_) rfl rfl ?_ ?_; rotate_left; (intro hb; intro W hW; go_simp; with_reducible rfl)
  simp only [Act.put, List.setIfInBounds_toArray, List.set_cons_succ, List.set_cons_zero]
  refine flow_gop (v := ?_) rfl rfl ?_ ?_; rotate_left; (intro hb; intro W hW; unfold Gives; go_simp; (with_reducible refine (neGood_any _ _ _ n W (HNn.out W hW)).mono ?_); rintro e W' ⟨rfl, hb3⟩; first | (refine ⟨?_, Since.trans hW hb3⟩; with_reducible rfl) | (subst hb3; refine ⟨?_, hW⟩; with_reducible rfl))
  simp only [Act.put, List.setIfInBounds_toArray, List.set_cons_succ, List.set_cons_zero]
  refine flow_gval (v := ?_) rfl rfl ?_ ?_; rotate_left; (intro hb; intro W hW; go_simp; with_reducible rfl)
  simp only [Act.put, List.setIfInBounds_toArray, List.set_cons_succ, List.set_cons_zero]
  first | refine flow_or rfl rfl ?_ | (refine flow_val (v := ?_) rfl ?_ ?_; rotate_left; (intro W hW; go_simp; with_reducible rfl))
  simp only [Act.put, List.setIfInBounds_toArray, List.set_cons_succ, List.set_cons_zero]
  refine flow_val (v := ?_) rfl ?_ ?_; rotate_left; (intro W hW; go_simp; with_reducible rfl)
  simp only [Act.put, List.setIfInBounds_toArray, List.set_cons_succ, List.set_cons_zero]
  refine flow_gval (v := ?_) rfl rfl ?_ ?_; rotate_left; (intro hb; intro W hW; go_simp; with_reducible rfl)
  simp only [Act.put, List.setIfInBounds_toArray, List.set_cons_succ, List.set_cons_zero]
  refine flow_gop (v := ?_) rfl rfl ?_ ?_; rotate_left; (intro hb; intro W hW; unfold Gives; go_simp; (with_reducible refine (soMost_any _ W).mono ?_); rintro e W' ⟨rfl, hb3⟩; first | (refine ⟨?_, Since.trans hW hb3⟩; with_reducible rfl) | (subst hb3; refine ⟨?_, hW⟩; with_reducible rfl))
  simp only [Act.put, List.setIfInBounds_toArray, List.set_cons_succ, List.set_cons_zero]
  refine flow_gval (v := ?_) rfl rfl ?_ ?_; rotate_left; (intro hb; intro W hW; go_simp; with_reducible rfl)
  simp only [Act.put, List.setIfInBounds_toArray, List.set_cons_succ, List.set_cons_zero]
  first | refine flow_or rfl rfl ?_ | (refine flow_val (v := ?_) rfl ?_ ?_; rotate_left; (intro W hW; go_simp; with_reducible rfl))
  simp only [Act.put, List.setIfInBounds_toArray, List.set_cons_succ, List.set_cons_zero]
  intro W hW
  cases hg : (!prOk p || !netOk n || !inB 0 200000 most)
  · have hok : csOk p n most = true := by unfold csOk; revert hg; cases prOk p <;> cases netOk n <;> cases inB 0 200000 most <;> simp
    simp only [Bool.or_eq_false_iff, Bool.not_eq_false'] at hg
    obtain ⟨⟨hp1, hn⟩, hm⟩ := hg
    have hmo := inB_iff.1 hm
    obtain ⟨hlab, hst⟩ := prOk_facts hp1
    obtain ⟨hn40, hn6⟩ := netOk_r6 hn
    obtain ⟨hf40, hf6⟩ := free_r6 hn
    have Hf6 := Lib.hid hf6
    have Hn6 := Lib.hid hn6
    have Hst := Lib.hid hst
    have Hpl := Lib.hid (freeP_len hf40 hf6)
    have Hpo := Lib.hid (freeP_in (shape_free (n := n)))
    obtain ⟨F, hF⟩ : ∃ F, freeL n = F := ⟨_, rfl⟩
    obtain ⟨PT, hPT⟩ : ∃ PT, freeP F = PT := ⟨_, rfl⟩
    have Hsh : Hid (Shape n.ends F) := by rw [← hF]; exact shape_free
    have Hin : Hid (InR (p.labels - 1) F) := by rw [← hF]; exact inr_free (by omega)
    obtain ⟨R, hR⟩ : ∃ R, csR p n most = R := ⟨_, rfl⟩
    have HR : Hid (soA cntNx p n.ends PT most true 0 F 0 0 = R) := by show _ = _; rw [← hR, ← hPT, ← hF]; rfl
    have Hr0 : Hid (fnExactCountSolutions_r0 p n most = R.1) := by show _ = _; unfold fnExactCountSolutions_r0; rw [if_pos hok, hR]
    have Hr1 : Hid (fnExactCountSolutions_r1 p n most = R.2.1) := by show _ = _; unfold fnExactCountSolutions_r1; rw [if_pos hok, hR]
    rw [hF] at Hf6 Hpl Hpo hf40
    rw [hPT] at Hpl Hpo
    have HF := Lib.hid hF
    have HPT := Lib.hid hPT
    have Hhn := Lib.hid hn
    have Hlab := Lib.hid hlab
    have Hmo := Lib.hid hmo
    have Hel := Lib.hid hel
    have Hs2 := Lib.hid hW
    clear hF hPT hR hm hp1 hst hf6 hn6 hok hW
    go_upto_region 3 with (fail)
    refine wp_region_chain (w0 := w0) 6 [false, false, false, true, false, true] (by kernel_rfl) (by kernel_rfl) (Hs2.out) ?_
    simp only [selF, selT, List.take_succ_cons, List.take_zero, List.drop_succ_cons, List.drop_zero]
    refine pflow_val (v := ?_) rfl ?_ ?_; rotate_left; (intro W hW; go_simp; with_reducible rfl)
    simp only [Act.put, List.setIfInBounds_toArray, List.set_cons_succ, List.set_cons_zero]
    refine pflow_val (v := ?_) rfl ?_ ?_; rotate_left; (intro W hW; go_simp; with_reducible rfl)
    simp only [Act.put, List.setIfInBounds_toArray, List.set_cons_succ, List.set_cons_zero]
    refine pflow_val (v := ?_) rfl ?_ ?_; rotate_left; (intro W hW; go_simp; with_reducible rfl)
    simp only [Act.put, List.setIfInBounds_toArray, List.set_cons_succ, List.set_cons_zero]
    refine pflow_val (v := ?_) rfl ?_ ?_; rotate_left; (intro W hW; go_simp; with_reducible rfl)
    simp only [Act.put, List.setIfInBounds_toArray, List.set_cons_succ, List.set_cons_zero]
    intro W hW
    refine Or.inl ⟨rfl, ?_⟩
    go_simp
    (with_reducible refine (soEmpty_any _ _ _ n W (HNn.out W hW) (by omega) (fun v es hv => Nat.le_trans (Hn6.out v es hv) (by omega))).mono ?_)
    rintro e W' ⟨u1, S1, rfl, ho1, hb1⟩
    refine ⟨_, rfl, hW.trans hb1, ?_⟩
    replace hW := hW.trans hb1
    obtain ⟨AU, mU, cU, rfl⟩ := lawII.one ho1
    have HO1 := Lib.hid (HF.out ▸ ho1.read)
    have HZ1 : Hid (w0.heap.size ≤ W'.heap.size) := (Since.below hW).size
    clear ho1 hb1
    (try simp only [Act.put, List.setIfInBounds_toArray, List.set_cons_succ, List.set_cons_zero])
    refine Or.inl ⟨rfl, ?_⟩
    go_simp
    (with_reducible refine (soStart_any _ _ _ _ _ _ p n F most _ (HPp.out _ hW) (HNn.out _ hW) HO1.out hf40 Hf6.out).mono ?_)
    rintro e W' ⟨sb, ul, uf, SL, rfl, hS, hsb, hb⟩
    refine ⟨_, rfl, hW.trans hb, ?_⟩
    replace hW := hW.trans hb
    rw [HPT.out] at hS
    have HS0 := Lib.hid (hS.mono HZ1.out)
    have Hsb : Hid (w0.heap.size ≤ sb) := Nat.le_trans HZ1.out hsb
    clear hS hb hsb
    (try simp only [Act.put, List.setIfInBounds_toArray, List.set_cons_succ, List.set_cons_zero])
    simp only [TFlow]
    have HW := Lib.hid hW
    clear hW
    go_wp2
    go_loopw [9] (fun cv wr => ∃ (k : Int) (fr : Bool) (l : List (List Int)) (pos st : Int), cv = .int .i64 k ∧ 0 ≤ pos ∧ pos ≤ PT.length ∧ 0 ≤ st ∧ st ≤ most ∧ soA cntNx p n.ends PT most fr k l pos st = R ∧ SolM wr sb (arrS p (.slice P0 p.nodes.length pz0) (.slice P1 p.edges.length pz1) (.slice A n.ends.length c) (.slice A2 n.ids.length c2) (.slice A3 n.inputs.length c3) ul uf pos st most fr) l PT ul uf SL w0.heap.size ∧ (Shape n.ends l ∧ InR (p.labels - 1) l) ∧ Since w0 wr) (fun _ wr => frAt wr sb + soMeas most (stAt wr sb 9) (stAt wr sb 10))
    case atStart => exact ⟨0, true, F, 0, 0, rfl, by omega, by omega, by omega, Hmo.out.1, HR.out, HS0.out, ⟨Hsh.out, Hin.out⟩, HW.out⟩
    case round =>
      obtain ⟨k, fr, l, pos, st, rfl, hq1, hq2, hs1, hs2, heq, hmem, hinv, hb⟩ := hrel
      obtain ⟨M0, hM0⟩ : ∃ z, frAt wr sb + soMeas most (stAt wr sb 9) (stAt wr sb 10) = z := ⟨_, rfl⟩
      have HM0 := Lib.hid hM0
      have HMe : Hid ((if fr = true then 1 else 0) + soMeas most pos st = M0) := by
        show _ = _
        obtain ⟨d0, d1, d2, d3, d4, d5, d6, d7, d8, d9, d10, d11, d12⟩ := arrS_cells hmem.1
        rw [← hM0, stAt_of d9, stAt_of d10, frAt_of d12]
      have Hrun := Lib.hid (soRun_any p n _ _ _ _ _ ul uf sb SL w0.heap.size PT most pos st fr l wr Hsb.out (fun X hX => HPp.out X (Below.trans hb hX)) (fun X hX => HNn.out X (Below.trans hb hX)) hmem Hhn.out Hst.out Hel.out Hlab.out hinv.1 hinv.2 Hpo.out Hpl.out Hmo.out ⟨hq1, hq2⟩ ⟨hs1, hs2⟩ Hn6.out)
      obtain ⟨r, hr⟩ : ∃ r, soQ p n.ends PT most fr l pos st = r := ⟨_, rfl⟩
      have Hnx := Lib.hid (soA_next cntNx p n.ends PT most fr k l pos st hq1 hq2 hs2 r hr)
      rw [heq] at Hnx
      rw [hr] at Hrun
      have Hb := Lib.hid hb
      clear hr hM0 hmem hinv heq hb
      go_wp2_with fail
      refine Hrun.out.mono ?_
      rintro e W2 ⟨rfl, hS2, hin2, hb2⟩
      have HS2 := Lib.hid hS2
      have Hin2 := Lib.hid hin2
      have Hb2 := Lib.hid (Below.trans Hb.out hb2)
      clear hS2 hin2 hb2
      by_cases h1 : r.1 = 1
      · have hbe : (r.1 != 1) = false := by simpa using h1
        have hRR := Hnx.out.1
        rw [if_pos h1, if_pos (show (cntNx k r.2.1).1 = true from rfl)] at hRR
        have HRR := Lib.hid hRR.symm
        obtain ⟨e1, e2, e3, e4⟩ := Hnx.out.2.1 h1
        have E4 := Lib.hid e4
        clear hRR h1 e4
        go_wp2
        go_roundw
        case rel => exact ⟨_, false, r.2.1, r.2.2.1, r.2.2.2, rfl, by omega, by omega, by omega, e3, HRR.out, HS2.out, Hin2.out, Hb2.out⟩
        case measure =>
          obtain ⟨d0, d1, d2, d3, d4, d5, d6, d7, d8, d9, d10, d11, d12⟩ := arrS_cells HS2.out.1
          rw [HM0.out, stAt_of d9, stAt_of d10, frAt_of d12, ← HMe.out]
          have := E4.out
          cases fr <;> simp at this ⊢ <;> omega
      · have hbe : (r.1 != 1) = true := by simpa using h1
        have hRR := Hnx.out.1
        rw [if_neg h1] at hRR
        have HRR := Lib.hid hRR
        clear hRR h1
        go_wp2
        go_ret2
        exact ⟨ret_two (by rw [Hr0.out, HRR.out]) (by rw [Hr1.out, HRR.out]), Since.after Hb0.out Hb2.out⟩
  · have hk : csOk p n most = false := by unfold csOk; revert hg; cases prOk p <;> cases netOk n <;> cases inB 0 200000 most <;> simp
    have h0 : fnExactCountSolutions_r0 p n most = 0 := by unfold fnExactCountSolutions_r0; rw [hk]; rfl
    have h1 : fnExactCountSolutions_r1 p n most = 0 := by unfold fnExactCountSolutions_r1; rw [hk]; rfl
    have HW := Lib.hid hW
    clear hW
    go_wp2
    go_ret2
    exact ⟨ret_two h0.symm h1.symm, Since.after Hb0.out HW.out⟩
end Go.Proofs.YtomnaabadohecaaGreat
