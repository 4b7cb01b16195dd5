/- Parts of the proof: walks of functions and plain laws. -/
import Derived.Test.YtomnaabadohecaaGreatP16
import Derived.Test.YtomnaabadohecaaGreatP15
import Derived.Test.YtomnaabadohecaaGreatP8
import Derived.Test.YtomnaabadohecaaGreatP4
import Derived.Test.YtomnaabadohecaaGreatP14
namespace Go.Proofs.YtomnaabadohecaaGreat
open Go.RowKit
/-! counting solutions -/
def soA {σ : Type} (nx : σ → List (List Int) → Bool × σ) (p : Prob) (ends : List (List (Int × Int))) (ports : List (Int × Int)) (most : Int) (fr : Bool) (s : σ) (l : List (List Int)) (pos st : Int) : σ × SoR :=
  if fr = true then (if holdsB p ends l = true then soAll nx p ends ports most (soMeas most pos st) s l pos st else (s, 2, l, pos, st)) else soAll nx p ends ports most (soMeas most pos st) s l (pos - 1) st
theorem soA_next {σ : Type} (nx : σ → List (List Int) → Bool × σ) (p : Prob) (ends : List (List (Int × Int))) (ports : List (Int × Int)) (most : Int) (fr : Bool) (s : σ) (l : List (List Int)) (pos st : Int) (hp : 0 ≤ pos) (hp2 : pos ≤ ports.length) (hst : st ≤ most) (r : SoR) (hr : soQ p ends ports most fr l pos st = r) :
    soA nx p ends ports most fr s l pos st = (if r.1 = 1 then (if (nx s r.2.1).1 = true then soA nx p ends ports most false (nx s r.2.1).2 r.2.1 r.2.2.1 r.2.2.2 else ((nx s r.2.1).2, r)) else (s, r)) ∧
      (r.1 = 1 → r.2.2.1 = ports.length ∧ st ≤ r.2.2.2 ∧ r.2.2.2 ≤ most ∧ soMeas most r.2.2.1 r.2.2.2 + (if fr = true then 0 else 1) ≤ soMeas most pos st) ∧ (r.1 = 1 ∨ r.1 = 2 ∨ r.1 = 3) := by
  unfold soA soQ at *
  cases fr
  · rw [if_neg (by simp)] at hr ⊢
    have hf : soMeas most (pos - 1) st ≤ soMeas most pos st := by unfold soMeas; omega
    have hg := soAll_go nx p ends ports most (soMeas most pos st) (soMeas most pos st) s l (pos - 1) st hst (by omega) (by omega) hf hf
    have he := soGo_end p ends ports most (soMeas most pos st) l (pos - 1) st hst (by omega) (by omega) hf
    rw [hr] at hg he
    obtain ⟨e1, e2, e3, e4, e5, e6, e7⟩ := he
    refine ⟨?_, fun h1 => ⟨e6 h1, e4, e1, ?_⟩, e7⟩
    · rw [hg]
      simp only [Bool.false_eq_true, if_false]
      by_cases h1 : r.1 = 1
      · have h6 := e6 h1
        rw [if_pos h1, if_pos h1]
        split
        · exact soAll_fuel nx p ends ports most _ _ _ _ _ _ e1 (by omega) (by unfold soMeas at *; omega) (by unfold soMeas at *; omega)
        · rfl
      · rw [if_neg h1, if_neg h1]
    · have h6 := e6 h1
      simp only [Bool.false_eq_true, if_false]
      unfold soMeas at *; omega
  · rw [if_pos rfl] at hr ⊢
    by_cases hh : holdsB p ends l = true
    · rw [if_pos hh] at hr ⊢
      have hg := soAll_go nx p ends ports most (soMeas most pos st) (soMeas most pos st) s l pos st hst (by omega) hp2 (Nat.le_refl _) (Nat.le_refl _)
      have he := soGo_end p ends ports most (soMeas most pos st) l pos st hst (by omega) hp2 (Nat.le_refl _)
      rw [hr] at hg he
      obtain ⟨e1, e2, e3, e4, e5, e6, e7⟩ := he
      refine ⟨?_, fun h1 => ⟨e6 h1, e4, e1, by simpa using e5⟩, e7⟩
      rw [hg]
      by_cases h1 : r.1 = 1
      · have h6 := e6 h1
        rw [if_pos h1, if_pos h1]
        split
        · rw [if_neg (by simp)]
          exact soAll_fuel nx p ends ports most _ _ _ _ _ _ e1 (by omega) (by unfold soMeas at *; omega) (by unfold soMeas at *; omega)
        · rfl
      · rw [if_neg h1, if_neg h1]
    · rw [if_neg hh] at hr ⊢
      subst hr
      exact ⟨by simp, fun h1 => by simp at h1, .inr (.inl rfl)⟩
theorem shape_free {n : Net} : Shape n.ends (freeL n) := by
  refine ⟨freeL_len n, fun v es row hes hr => ?_⟩
  rw [freeL_get hes] at hr
  cases hr
  simp
theorem inr_free {n : Net} {hi : Int} (h : -1 ≤ hi) : InR hi (freeL n) := by
  intro v row i x hv hx
  unfold freeL at hv
  rw [List.getElem?_map] at hv
  cases he : n.ends[v]? with
  | none => rw [he] at hv; cases hv
  | some es =>
    rw [he] at hv
    cases hv
    have := List.mem_of_getElem? hx
    obtain ⟨-, rfl⟩ := List.mem_replicate.1 this
    omega
theorem netOk_r6 {n : Net} (h : netOk n = true) : n.ends.length ≤ 40 ∧ ∀ (v : Nat) (es : List (Int × Int)), n.ends[v]? = some es → es.length ≤ 6 := by
  have h' := h
  unfold netOk at h
  simp only [Bool.and_eq_true, List.all_eq_true, inB_iff] at h
  refine ⟨by omega, fun v es hes => ?_⟩
  have := h.2 v (List.mem_range.2 (lt_of_get hes))
  rw [getD_of hes] at this
  unfold rowOkB at this
  simp only [Bool.and_eq_true, decide_eq_true_eq] at this
  exact this.1
theorem free_r6 {n : Net} (h : netOk n = true) : (freeL n).length ≤ 40 ∧ ∀ (v : Nat) (row : List Int), (freeL n)[v]? = some row → row.length ≤ 6 := by
  obtain ⟨h1, h2⟩ := netOk_r6 h
  refine ⟨by rw [freeL_len]; exact h1, fun v row hv => ?_⟩
  obtain ⟨es, hes⟩ := getx n.ends v (by rw [← freeL_len]; exact lt_of_get hv)
  rw [shape_free.2 v es row hes hv]
  exact h2 v es hes
theorem freeP_len {l : List (List Int)} (h1 : l.length ≤ 40) (h2 : ∀ (v : Nat) (row : List Int), l[v]? = some row → row.length ≤ 6) : (freeP l).length ≤ 1000 := by
  have := freeU_le h2 l.length
  unfold freeP
  omega
theorem prOk_facts {p : Prob} (h : prOk p = true) : (1 ≤ p.labels ∧ p.labels ≤ 8) ∧ Strict p.edges := by
  unfold prOk at h
  simp only [Bool.and_eq_true, inB_iff] at h
  exact ⟨h.1, cfgs_strict h.2.2.2⟩
theorem SolM.mono {w : World} {sb : Nat} {vs : Array Value} {l : List (List Int)} {ports : List (Int × Int)} {ul uf : Value} {SL : List Nat} {B B' : Nat} (h : SolM w sb vs l ports ul uf SL B) (hB : B' ≤ B) : SolM w sb vs l ports ul uf SL B' := by
  obtain ⟨h1, h2, h3, h4⟩ := h
  exact ⟨h1, lawII.mono h2 hB, h3, h4⟩
end Go.Proofs.YtomnaabadohecaaGreat
namespace Go.Proofs.YtomnaabadohecaaGreat
open Go.RowKit
/-! counting solutions: the reference -/
def frAt (w : World) (b : Nat) : Nat := match w.cell? ⟨b, 12, none⟩ with | some (.bool true) => 1 | _ => 0
theorem frAt_of {w : World} {b : Nat} {z : Bool} (h : w.cell? ⟨b, 12, none⟩ = some (.bool z)) : frAt w b = if z = true then 1 else 0 := by
  unfold frAt
  rw [h]
  cases z <;> rfl
end Go.Proofs.YtomnaabadohecaaGreat
namespace Go.Proofs.YtomnaabadohecaaGreat
open Go.RowKit
/-! the program's search, with what holds of the state as long as it goes on -/
set_option maxRecDepth 100000 in
set_option maxHeartbeats 16000000 in
theorem run_inv {σ : Type} (I : σ → Prop) (nx : σ → List (List Int) → Bool × σ) (J : σ → World → Prop) (fid : FuncId) (caps : Array Value) (p : Prob) (n : Net) (pa pb va vb vc ul uf : Value) (sb : Nat) (SL : List Nat) (B : Nat) (ports : List (Int × Int)) (most : Int) (s0 : σ) (l0 : List (List Int)) (w : World)
    (henter : ∀ args w, (callFunc fid args).run Tryz.prog w = .ok (.enter fid args) w) (hBs : B ≤ sb)
    (hPp : ∀ X, Below B w X → PrIn X pa pb p) (hNn : ∀ X, Below B w X → NetIn X va vb vc n) (hJk : ∀ s W W', J s W → Only (sb :: SL) W W' → J s W')
    (hcl : ∀ s l st W, Below B w W → SolM W sb (arrI p pa pb va vb vc ul uf st) l ports ul uf SL B → J s W → I s → Shape n.ends l → Calls Tryz.prog fid caps W fun e W' => e = .returned (.bool (nx s l).1) ∧ J (nx s l).2 W' ∧ SolM W' sb (arrI p pa pb va vb vc ul uf st) l ports ul uf SL B ∧ Below B W W')
    (hS : SolM w sb (arrI p pa pb va vb vc ul uf 0) l0 ports ul uf SL B) (hJ : J s0 w) (hI0 : I s0) (hIn : ∀ s l, I s → (nx s l).1 = true → I (nx s l).2) (hn : netOk n = true) (hst : Strict p.edges) (hel : p.edges.length ≤ 1048576) (hlab : 1 ≤ p.labels ∧ p.labels ≤ 8) (hsh : Shape n.ends l0) (hin : InR (p.labels - 1) l0) (hpo : PortsIn n.ends ports) (hpl : ports.length ≤ 1000) (hmo : 0 ≤ most ∧ most ≤ 200000)
    (hr6 : ∀ (v : Nat) (es : List (Int × Int)), n.ends[v]? = some es → es.length ≤ 6) :
    Calls Tryz.prog 102 #[.pointer (some ⟨sb, 0, none⟩), .int .i64 most, .func (.func fid) #[] caps] w fun e w' =>
      e = .returned (.int .i64 (soR nx p n.ends ports most s0 l0).2.1) ∧ SolM w' sb (arrI p pa pb va vb vc ul uf (soR nx p n.ends ports most s0 l0).2.2.2.2) (soR nx p n.ends ports most s0 l0).2.2.1 ports ul uf SL B ∧ J (soR nx p n.ends ports most s0 l0).1 w' ∧ Below B w w' := by
  have hBw : B ≤ w.heap.size := Nat.le_trans hBs (Nat.le_of_lt hS.1.lt)
  obtain ⟨A5, c5, hul, -⟩ := id hS.2.1.read
  obtain ⟨TE, hTE⟩ := hS.2.2.2
  obtain ⟨A6, c6, huf, -, -, -⟩ := end_at hTE
  obtain ⟨A1, c1, hpa, -⟩ := id (hPp w (Below.refl _ _)).1
  obtain ⟨A2, c2, hpb, -⟩ := id (hPp w (Below.refl _ _)).2
  obtain ⟨A3, c3, hva, -⟩ := id (hNn w (Below.refl _ _)).1
  obtain ⟨A4, c4, hvb, -⟩ := id (hNn w (Below.refl _ _)).2.1
  obtain ⟨A7, c7, hvc, -⟩ := id (hNn w (Below.refl _ _)).2.2
  subst hul huf hpa hpb hva hvb hvc
  have hwl : IntKind.i64.wrap (p.labels - 1) = p.labels - 1 := wr64 _ (by omega) (by omega)
  have eg := henter
  have HPp := Lib.hid hPp
  have HNn := Lib.hid hNn
  have HJk := Lib.hid hJk
  have Hcl := Lib.hid hcl
  have HS := Lib.hid hS
  have HJ := Lib.hid hJ
  have HI0 := Lib.hid hI0
  have HIn := Lib.hid hIn
  have Hst := Lib.hid hst
  have Hsh := Lib.hid hsh
  have Hin := Lib.hid hin
  have Hpo := Lib.hid hpo
  have Hr6 := Lib.hid hr6
  have hrl : Hid (∀ (v : Nat) (row : List Int), l0[v]? = some row → row.length ≤ 1000000) := fun v row hv => by
    obtain ⟨es, hes⟩ := getx n.ends v (by rw [← hsh.1]; exact lt_of_get hv)
    have := hsh.2 v es row hes hv
    have := hr6 v es hes
    omega
  obtain ⟨k0, k1, k2, k3, k4, k5, k6, k7, -, -⟩ := arrI_cells hS.1
  replace k0 := have_cell k0
  replace k1 := have_cell k1
  replace k2 := have_cell k2
  replace k3 := have_cell k3
  replace k4 := have_cell k4
  replace k5 := have_cell k5
  replace k6 := have_cell k6
  replace k7 := have_cell k7
  clear hPp hNn hJk hcl hS hJ hI0 hIn hst hsh hin hpo hr6 hTE henter
  obtain ⟨hB0, hhB⟩ : ∃ b, holdsB p n.ends l0 = b := ⟨_, rfl⟩
  have HhB := Lib.hid hhB
  clear hhB
  obtain ⟨R, hR⟩ : ∃ R, soR nx p n.ends ports most s0 l0 = R := ⟨_, rfl⟩
  have HR := Lib.hid hR
  rw [hR]
  clear hR
  go_enter Tryz.func102, Tryz.ntmps102
  go_upto_region 1 with (fail)
  refine wp_region_flow 14 (Since w) (by kernel_rfl) (by kernel_rfl) (by simp) (since_drew (since_refl _)) ?_
  simp only [List.take_succ_cons, List.take_zero, List.drop_succ_cons, List.drop_zero]
  refine flow_val (v := ?_) rfl ?_ ?_; rotate_left; (intro W hW; go_simp; with_reducible rfl)
  simp only [Act.put, List.setIfInBounds_toArray, List.set_cons_succ, List.set_cons_zero]
  refine flow_val (v := ?_) rfl ?_ ?_; rotate_left; (intro W hW; go_simp; with_reducible rfl)
  simp only [Act.put, List.setIfInBounds_toArray, List.set_cons_succ, List.set_cons_zero]
  refine flow_val (v := ?_) rfl ?_ ?_; rotate_left; (intro W hW; go_simp; with_reducible rfl)
  simp only [Act.put, List.setIfInBounds_toArray, List.set_cons_succ, List.set_cons_zero]
  refine flow_val (v := ?_) rfl ?_ ?_; rotate_left; (intro W hW; go_simp; with_reducible rfl)
  simp only [Act.put, List.setIfInBounds_toArray, List.set_cons_succ, List.set_cons_zero]
  refine flow_val (v := ?_) rfl ?_ ?_; rotate_left; (intro W hW; go_simp; with_reducible rfl)
  simp only [Act.put, List.setIfInBounds_toArray, List.set_cons_succ, List.set_cons_zero]
  refine flow_val (v := ?_) rfl ?_ ?_; rotate_left; (intro W hW; go_simp; with_reducible rfl)
  simp only [Act.put, List.setIfInBounds_toArray, List.set_cons_succ, List.set_cons_zero]
  refine flow_val (v := ?_) rfl ?_ ?_; rotate_left; (intro W hW; go_simp; with_reducible rfl)
  simp only [Act.put, List.setIfInBounds_toArray, List.set_cons_succ, List.set_cons_zero]
  refine flow_val (v := ?_) rfl ?_ ?_; rotate_left; (intro W hW; go_simp; with_reducible rfl)
  simp only [Act.put, List.setIfInBounds_toArray, List.set_cons_succ, List.set_cons_zero]
  refine flow_val (v := ?_) rfl ?_ ?_; rotate_left; (intro W hW; go_simp; with_reducible rfl)
  simp only [Act.put, List.setIfInBounds_toArray, List.set_cons_succ, List.set_cons_zero]
  refine flow_val (v := ?_) rfl ?_ ?_; rotate_left; (intro W hW; go_simp; with_reducible rfl)
  simp only [Act.put, List.setIfInBounds_toArray, List.set_cons_succ, List.set_cons_zero]
  refine flow_val (v := ?_) rfl ?_ ?_; rotate_left; (intro W hW; go_simp; with_reducible rfl)
  simp only [Act.put, List.setIfInBounds_toArray, List.set_cons_succ, List.set_cons_zero]
  refine flow_val (v := ?_) rfl ?_ ?_; rotate_left; (intro W hW; go_simp; with_reducible rfl)
  simp only [Act.put, List.setIfInBounds_toArray, List.set_cons_succ, List.set_cons_zero]
  refine flow_op ?_ rfl ?_ ?_; rotate_left; (intro W hW; unfold Gives; go_simp; (with_reducible refine (holds_any _ _ _ _ _ _ p n l0 W (HPp.out W (hW.below.mono hBw)) (HNn.out W (hW.below.mono hBw)) (HS.out.keepB hW.below).rows hn Hsh.out Hst.out hel hrl.out).mono ?_); rintro e W' ⟨rfl, hb3⟩; first | (refine ⟨?_, Since.trans hW hb3⟩; with_reducible rfl) | (subst hb3; refine ⟨?_, hW⟩; with_reducible rfl))
  simp only [Act.put, List.setIfInBounds_toArray, List.set_cons_succ, List.set_cons_zero]
  refine flow_val (v := ?_) rfl ?_ ?_; rotate_left; (intro W hW; go_simp; with_reducible rfl)
  simp only [Act.put, List.setIfInBounds_toArray, List.set_cons_succ, List.set_cons_zero]
  intro W hW
  have HW := Lib.hid hW
  clear hW k0 k1 k2 k3 k4 k5 k6 k7
  rw [HhB.out]
  cases hB0
  · have hRe : Hid (R = (s0, 2, l0, 0, 0)) := by show _ = _; rw [← HR.out]; unfold soR; rw [if_neg (by rw [HhB.out]; simp)]
    go_wp2
    go_ret
    rw [hRe.out]
    exact ⟨rfl, HS.out.keepB HW.out.below, HJk.out _ _ _ HJ.out (Only.of_below HW.out.below), HW.out.below.mono hBw⟩
  · obtain ⟨F, hF⟩ : ∃ F, F = soMeas most 0 0 := ⟨_, rfl⟩
    have hRe : Hid (R = soAll nx p n.ends ports most F s0 l0 0 0) := by show _ = _; rw [← HR.out, hF]; unfold soR; rw [if_pos HhB.out]
    have hF0 : Hid (soMeas most 0 0 ≤ F) := by show _ ≤ _; rw [hF]; exact Nat.le_refl _
    clear hF
    obtain ⟨gU, hgU⟩ : ∃ z, z = sb := ⟨_, rfl⟩
    have HgU := Lib.hid hgU
    clear hgU
    go_wp2
    go_loopw [7] (fun a wr => ∃ (s : σ) (l : List (List Int)) (pos st : Int), a = .int .i64 pos ∧ -1 ≤ pos ∧ pos ≤ ports.length ∧ 0 ≤ st ∧ st ≤ most ∧ (R = soAll nx p n.ends ports most F s l pos st ∧ soMeas most pos st ≤ F) ∧ (SolM wr sb (arrI p (.slice A1 p.nodes.length c1) (.slice A2 p.edges.length c2) (.slice A3 n.ends.length c3) (.slice A4 n.ids.length c4) (.slice A7 n.inputs.length c7) (.slice A5 l0.length c5) (.slice A6 ports.length c6) st) l ports (.slice A5 l0.length c5) (.slice A6 ports.length c6) SL B ∧ J s wr ∧ I s) ∧ (Shape n.ends l ∧ InR (p.labels - 1) l) ∧ Below B w wr) (fun a wr => soMeas most (intOf a) (stAt wr sb 9))
    case atStart => exact ⟨s0, l0, 0, 0, rfl, by omega, by omega, by omega, hmo.1, ⟨hRe.out, hF0.out⟩, ⟨HS.out.keepB HW.out.below, HJk.out _ _ _ HJ.out (Only.of_below HW.out.below), HI0.out⟩, ⟨Hsh.out, Hin.out⟩, HW.out.below.mono hBw⟩
    case round =>
      obtain ⟨s, l, pos, st, rfl, hp1, hp2, hs1, hs2, heq, hmem, hinv, hb⟩ := hrel
      have Heq := Lib.hid heq
      have Hmem := Lib.hid hmem
      have Hinv := Lib.hid hinv
      have Hb := Lib.hid hb
      obtain ⟨d0, d1, d2, d3, d4, d5, d6, d7, d8, d9⟩ := arrI_cells hmem.1.1
      have hme : Hid (stAt wr sb 9 = st) := stAt_of d9
      have Hst0 : Hid (st = stAt wr sb 9) := hme.out.symm
      have Hlen0 : Hid (l0.length = l.length) := by show _ = _; have h1 := hmem.1.rows; obtain ⟨_, _, e, -⟩ := h1; simp only [Value.slice.injEq] at e; exact e.2.1
      clear heq hmem hinv hb d0 d1 d2 d3 d4 d5 d6 d7 d9
      have HFm : Hid (soMeas most pos st ≤ F) := Heq.out.2
      obtain ⟨M0, hM0⟩ : ∃ z, soMeas most (intOf (Value.int .i64 pos)) (stAt wr sb 9) = z := ⟨_, rfl⟩
      have HM0 := Lib.hid hM0
      have HMe : Hid (soMeas most pos st = M0) := by show _ = _; rw [← hM0, hme.out]; rfl
      clear hM0
      go_upto_if 30 with (fail)
      go_cut [7] from 24 to 121 (fun a wx => ∃ (s1 : σ) (pos1 : Int), a = .int .i64 pos1 ∧ -1 ≤ pos1 ∧ pos1 < ports.length ∧ soMeas most pos1 st ≤ M0 ∧ R = soAll nx p n.ends ports most F s1 l pos1 st ∧ (SolM wx sb (arrI p (.slice A1 p.nodes.length c1) (.slice A2 p.edges.length c2) (.slice A3 n.ends.length c3) (.slice A4 n.ids.length c4) (.slice A7 n.inputs.length c7) (.slice A5 l0.length c5) (.slice A6 ports.length c6) st) l ports (.slice A5 l0.length c5) (.slice A6 ports.length c6) SL B ∧ J s1 wx ∧ I s1) ∧ Below B w wx)
      case first =>
        by_cases hlen : pos = ports.length
        · have hbe : (pos == (ports.length : Int)) = true := by simpa using hlen
          have hstep := Lib.hid (soAll_step nx p n.ends ports most F s l pos st hs2 hp1 Heq.out.2)
          have hcall := Lib.hid (Hcl.out s l st wr Hb.out Hmem.out.1 Hmem.out.2.1 Hmem.out.2.2 Hinv.out.1)
          obtain ⟨bo, hbo⟩ : ∃ b, (nx s l).1 = b := ⟨_, rfl⟩
          have Hbo := Lib.hid hbo
          obtain ⟨s1, hs1e⟩ : ∃ x, (nx s l).2 = x := ⟨_, rfl⟩
          have Hs1 := Lib.hid hs1e
          have HIn1 : Hid ((nx s l).1 = true → I s1) := fun h => by rw [← Hs1.out]; exact HIn.out s l Hmem.out.2.2 h
          have hRb : Hid (∀ b, (nx s l).1 = b → R = if b = true then soAll nx p n.ends ports most F s1 l (pos - 1) st else (s1, 1, l, pos, st)) := by
            intro b hb
            rw [Heq.out.1, hstep.out, if_neg (by omega), if_pos hlen, hb, Hs1.out]
          obtain ⟨pos1, hpos1⟩ : ∃ z, pos - 1 = z := ⟨_, rfl⟩
          have wp1 : IntKind.i64.wrap (pos - 1) = pos1 := by rw [wr64 _ (by omega) (by omega)]; exact hpos1
          have hq1 : -1 ≤ pos1 := by omega
          have hq2 : pos1 < ports.length := by omega
          have Hle : Hid (soMeas most pos1 st ≤ M0) := by show _ ≤ _; rw [← HMe.out]; unfold soMeas; omega
          have HF1 : Hid (soMeas most pos1 st ≤ F) := by show _ ≤ _; have := Hle.out; rw [← HMe.out] at this; exact Nat.le_trans this HFm.out
          have Hp1 := Lib.hid hpos1
          clear hbo hs1e hlen hpos1 hp1 hp2 hstep
          go_wp2_with fail
          refine hcall.out.mono ?_
          rw [Hbo.out, Hs1.out]
          rintro e w1 ⟨rfl, hJ1, hS1, hb1⟩
          have Hm1 := Lib.hid (And.intro hS1 hJ1)
          have Hb1 := Lib.hid (Hb.out.trans hb1)
          clear hJ1 hS1 hb1
          cases bo
          · have hRR : Hid (R = (s1, 1, l, pos, st)) := by show _ = _; rw [hRb.out false Hbo.out, if_neg (by simp)]
            go_wp2
            go_ret
            rw [hRR.out]
            exact ⟨rfl, Hm1.out.1, Hm1.out.2, Hb1.out⟩
          have Hx1 : Hid (R = soAll nx p n.ends ports most F s1 l pos1 st) := by show _ = _; rw [hRb.out true Hbo.out, if_pos rfl, Hp1.out]
          go_wp2
          go_meet
          case rel => exact ⟨s1, pos1, rfl, hq1, hq2, Hle.out, Hx1.out, ⟨Hm1.out.1, Hm1.out.2, HIn1.out Hbo.out⟩, Hb1.out⟩
        · have hbe : (pos == (ports.length : Int)) = false := by simpa using hlen
          have hq2 : pos < ports.length := by omega
          clear hlen
          go_wp2
          go_meet
          case rel => exact ⟨s, pos, rfl, hp1, hq2, by rw [← HMe.out]; exact Nat.le_refl _, Heq.out.1, Hmem.out, Hb.out⟩
      case rest =>
        obtain ⟨s1, pos1, rfl, hq1, hq2, hle, hx1, hm1, hb1⟩ := hcut
        obtain ⟨w1, hw1⟩ : ∃ z, z = wc := ⟨_, rfl⟩
        have Hle : Hid (soMeas most pos1 st ≤ M0) := hle
        have HF1 : Hid (soMeas most pos1 st ≤ F) := by show _ ≤ _; rw [← HMe.out] at hle; exact Nat.le_trans hle HFm.out
        have Hx1 := Lib.hid hx1
        have Hm1 := Lib.hid hm1
        have Hb1 := Lib.hid hb1
        clear hle hx1 hm1 hb1 hw1 w1 d8 hp1 hp2
        by_cases hneg : pos1 < 0
        · have hRR : Hid (R = (s1, 2, l, pos1, st)) := by show _ = _; rw [Hx1.out, soAll_step nx p n.ends ports most F s1 l pos1 st hs2 hq1 HF1.out, if_pos hneg]
          go_wp2
          go_ret
          rw [hRR.out]
          exact ⟨rfl, Hm1.out.1, Hm1.out.2.1, Hb1.out⟩
        · obtain ⟨q, rfl⟩ := Int.eq_ofNat_of_zero_le (show 0 ≤ pos1 by omega)
          have hql : q < ports.length := by omega
          obtain ⟨e, he⟩ := getx ports q hql
          obtain ⟨v, i, es, rfl, hes, hie⟩ := Hpo.out q e he
          have hvl : v < l.length := by rw [Hinv.out.1.1]; exact lt_of_get hes
          obtain ⟨row, hrow⟩ := getx l v hvl
          have hre := Hinv.out.1.2 v es row hes hrow
          have hr6 := Hr6.out v es hes
          have hir : i < row.length := by omega
          have hrow6 : row.length ≤ 6 := by omega
          obtain ⟨x, hx⟩ := getx row i hir
          have hxb := Hinv.out.2 v row i x hrow hx
          have Hstep := Lib.hid (soAll_at p n.ends ports most F nx s1 he hrow hx hs2 HF1.out)
          obtain ⟨gl, cl, gr, cr, e5, f1, f2, f3, f4, -⟩ := Hm1.out.1.label hrow hx
          injection e5 with ea eb' ec
          subst ea ec
          obtain ⟨TE1, hTE1⟩ := Hm1.out.1.2.2.2
          obtain ⟨A6', c6', e6, -, -, hA6⟩ := end_at hTE1
          obtain ⟨b6, o6, e7, t1, t2⟩ := hA6 q _ he
          injection e6 with ea6 eb6 ec6
          subst ec6
          rw [← ea6] at e7
          subst e7
          obtain ⟨d0, d1, d2, d3, d4, d5, d6, d7, d8, d9⟩ := arrI_cells Hm1.out.1.1
          have hv0 : v < l0.length := by rw [Hlen0.out]; exact hvl
          have hsw : sb < wc.heap.size := Hm1.out.1.1.lt
          have hgs : gr < sb := Hm1.out.1.2.2.1 gr f4
          have Hrow := Lib.hid hrow
          have Hx := Lib.hid hx
          have Hes := Lib.hid hes
          clear he hes hie hrow hx hre ea6 eb6 eb' hA6 hTE1 f3 hvl d1 d2 d3 d4 d5 d6 hneg hq1 hq2
          go_upto_region 11 with (fail)
          obtain ⟨eb, heb⟩ : ∃ eb, eb = wc.heap.size := ⟨_, rfl⟩
          obtain ⟨w2, hw2⟩ : ∃ w2, w2 = wc.alloc (.cells #[.int .i64 v, .int .i64 i] 114) := ⟨_, rfl⟩
          have hs12 : Since wc w2 := by rw [hw2]; exact since_alloc _ (since_refl _)
          have HE : Hid (BoxA w2 eb #[.int .i64 v, .int .i64 i]) := by rw [heb, hw2]; exact BoxA.new _ _ _
          have hebs : sb < eb := by rw [heb]; exact hsw
          rw [← hw2, ← heb]
          have g0 : ∀ W, Since w2 W → W.cell? ⟨eb, 0, none⟩ = some (.int .i64 v) := have_cell (HE.out.cell 0 _ rfl).1
          have g1 : ∀ W, Since w2 W → W.cell? ⟨eb, 1, none⟩ = some (.int .i64 i) := have_cell (HE.out.cell 1 _ rfl).1
          have l7 := lift_cell (have_cell d7) hs12
          have l1 := lift_cell (have_cell f1) hs12
          have l2 := lift_cell (have_cell f2) hs12
          have l00 := lift_cell (have_cell d0) hs12
          have l9 := lift_cell (have_cell d9) hs12
          have Hs12 := Lib.hid hs12
          clear hw2 heb hs12 d0 d7 d8 d9 f1 f2 t1 t2 hsw
          refine wp_region_flow 12 (Since w2) (by kernel_rfl) (by kernel_rfl) (by simp) (since_drew (since_refl _)) ?_
          simp only [List.take_succ_cons, List.take_zero, List.drop_succ_cons, List.drop_zero]
          refine flow_val (v := ?_) rfl ?_ ?_; rotate_left; (intro W hW; go_simp; with_reducible rfl)
          simp only [Act.put, List.setIfInBounds_toArray, List.set_cons_succ, List.set_cons_zero]
          refine flow_val (v := ?_) rfl ?_ ?_; rotate_left; (intro W hW; go_simp; with_reducible rfl)
          simp only [Act.put, List.setIfInBounds_toArray, List.set_cons_succ, List.set_cons_zero]
          refine flow_val (v := ?_) rfl ?_ ?_; rotate_left; (intro W hW; go_simp; with_reducible rfl)
          simp only [Act.put, List.setIfInBounds_toArray, List.set_cons_succ, List.set_cons_zero]
          refine flow_val (v := ?_) rfl ?_ ?_; rotate_left; (intro W hW; go_simp; with_reducible rfl)
          simp only [Act.put, List.setIfInBounds_toArray, List.set_cons_succ, List.set_cons_zero]
          refine flow_val (v := ?_) rfl ?_ ?_; rotate_left; (intro W hW; go_simp; with_reducible rfl)
          simp only [Act.put, List.setIfInBounds_toArray, List.set_cons_succ, List.set_cons_zero]
          refine flow_val (v := ?_) rfl ?_ ?_; rotate_left; (intro W hW; go_simp; with_reducible rfl)
          simp only [Act.put, List.setIfInBounds_toArray, List.set_cons_succ, List.set_cons_zero]
          refine flow_val (v := ?_) rfl ?_ ?_; rotate_left; (intro W hW; go_simp; with_reducible rfl)
          simp only [Act.put, List.setIfInBounds_toArray, List.set_cons_succ, List.set_cons_zero]
          refine flow_val (v := ?_) rfl ?_ ?_; rotate_left; (intro W hW; go_simp; with_reducible rfl)
          simp only [Act.put, List.setIfInBounds_toArray, List.set_cons_succ, List.set_cons_zero]
          refine flow_val (v := ?_) rfl ?_ ?_; rotate_left; (intro W hW; go_simp; with_reducible rfl)
          simp only [Act.put, List.setIfInBounds_toArray, List.set_cons_succ, List.set_cons_zero]
          refine flow_val (v := ?_) rfl ?_ ?_; rotate_left; (intro W hW; go_simp; with_reducible rfl)
          simp only [Act.put, List.setIfInBounds_toArray, List.set_cons_succ, List.set_cons_zero]
          refine flow_val (v := ?_) rfl ?_ ?_; rotate_left; (intro W hW; go_simp; with_reducible rfl)
          simp only [Act.put, List.setIfInBounds_toArray, List.set_cons_succ, List.set_cons_zero]
          refine flow_val (v := ?_) rfl ?_ ?_; rotate_left; (intro W hW; go_simp; with_reducible rfl)
          simp only [Act.put, List.setIfInBounds_toArray, List.set_cons_succ, List.set_cons_zero]
          intro W3 hW3
          have m2 := lift_cell l2 hW3
          have m00 := lift_cell l00 hW3
          have Hl1 := Lib.hid (lift_cell l1 hW3)
          have Hl9 := Lib.hid (lift_cell l9 hW3)
          have HW3 := Lib.hid hW3
          have Hm00 := Lib.hid m00
          clear g0 g1 l7 l1 l2 l00 l9 hW3
          go_upto_region 12 with (fail)
          by_cases hxe : x = p.labels - 1
          · have hbx : (x == p.labels - 1) = true := by simpa using hxe
            have Hxe := Lib.hid hxe
            clear hxe
            refine wp_region_flow 10 (Since W3) (by kernel_rfl) (by kernel_rfl) (by simp) (since_drew (since_refl _)) ?_
            simp only [List.take_succ_cons, List.take_zero, List.drop_succ_cons, List.drop_zero]
            refine flow_val (v := ?_) rfl ?_ ?_; rotate_left; (intro W hW; go_simp; with_reducible rfl)
            simp only [Act.put, List.setIfInBounds_toArray, List.set_cons_succ, List.set_cons_zero]
            refine flow_val (v := ?_) rfl ?_ ?_; rotate_left; (intro W hW; go_simp; with_reducible rfl)
            simp only [Act.put, List.setIfInBounds_toArray, List.set_cons_succ, List.set_cons_zero]
            refine flow_val (v := ?_) rfl ?_ ?_; rotate_left; (intro W hW; go_simp; with_reducible rfl)
            simp only [Act.put, List.setIfInBounds_toArray, List.set_cons_succ, List.set_cons_zero]
            refine flow_val (v := ?_) rfl ?_ ?_; rotate_left; (intro W hW; go_simp; with_reducible rfl)
            simp only [Act.put, List.setIfInBounds_toArray, List.set_cons_succ, List.set_cons_zero]
            refine flow_val (v := ?_) rfl ?_ ?_; rotate_left; (intro W hW; go_simp; with_reducible rfl)
            simp only [Act.put, List.setIfInBounds_toArray, List.set_cons_succ, List.set_cons_zero]
            refine flow_val (v := ?_) rfl ?_ ?_; rotate_left; (intro W hW; go_simp; with_reducible rfl)
            simp only [Act.put, List.setIfInBounds_toArray, List.set_cons_succ, List.set_cons_zero]
            refine flow_val (v := ?_) rfl ?_ ?_; rotate_left; (intro W hW; go_simp; with_reducible rfl)
            simp only [Act.put, List.setIfInBounds_toArray, List.set_cons_succ, List.set_cons_zero]
            refine flow_val (v := ?_) rfl ?_ ?_; rotate_left; (intro W hW; go_simp; with_reducible rfl)
            simp only [Act.put, List.setIfInBounds_toArray, List.set_cons_succ, List.set_cons_zero]
            refine flow_val (v := ?_) rfl ?_ ?_; rotate_left; (intro W hW; go_simp; with_reducible rfl)
            simp only [Act.put, List.setIfInBounds_toArray, List.set_cons_succ, List.set_cons_zero]
            refine flow_val (v := ?_) rfl ?_ ?_; rotate_left; (intro W hW; go_simp; with_reducible rfl)
            simp only [Act.put, List.setIfInBounds_toArray, List.set_cons_succ, List.set_cons_zero]
            intro W4 hW4
            have HW4 := Lib.hid (Hs12.out.after (HW3.out.after hW4))
            obtain ⟨y1, y2, y3, y4⟩ := (Hm1.out.1.keepB HW4.out.below).labelAt Hrow.out Hx.out (Hl1.out W4 hW4)
            obtain ⟨n1, n2, n3⟩ := y4 (-1)
            have HN1 := Lib.hid n1
            have HN2 := Lib.hid (Hb1.out.trans ((HW4.out.below.mono (Nat.le_trans hBs (Nat.le_of_lt Hm1.out.1.1.lt))).trans n2))
            have HN3 := Lib.hid (HJk.out _ _ _ Hm1.out.2.1 ((Only.of_below HW4.out.below).trans n3))
            clear y4 n1 n2 n3 hW4 m2 m00 hbx
            have Hn2 : Hid (R = soAll nx p n.ends ports most F s1 (putB l ((v : Int), (i : Int)) (-1)) ((q : Int) - 1) st) := by show _ = _; rw [Hx1.out, Hstep.out, if_pos Hxe.out]
            have wq : IntKind.i64.wrap ((q : Int) - 1) = (q : Int) - 1 := wr64 _ (by omega) (by omega)
            have HFq : Hid (soMeas most ((q : Int) - 1) st < M0 ∧ soMeas most ((q : Int) - 1) st ≤ F) := by have := Hle.out; have := HF1.out; unfold soMeas at *; exact ⟨by omega, by omega⟩
            by_cases hq0 : (q : Int) - 1 < 0
            · have hRR : Hid (R = (s1, 2, putB l ((v : Int), (i : Int)) (-1), (q : Int) - 1, st)) := by show _ = _; rw [Hn2.out, soAll_step nx p n.ends ports most F s1 _ ((q : Int) - 1) st hs2 (by omega) HFq.out.2, if_pos hq0]
              go_wp2
              go_ret
              rw [hRR.out]
              exact ⟨rfl, HN1.out, HN3.out, HN2.out⟩
            · go_wp2
              go_roundw
              case rel => exact ⟨s1, _, (q : Int) - 1, st, by go_num, by omega, by omega, hs1, hs2, ⟨Hn2.out, HFq.out.2⟩, ⟨HN1.out, HN3.out, Hm1.out.2.2⟩, ⟨putB_shape Hinv.out.1 Hrow.out hir, putB_inr Hinv.out.2 Hrow.out hir ⟨by omega, by omega⟩⟩, HN2.out⟩
              case measure =>
                rw [HM0.out, stAt_of (arrI_cells HN1.out.1).2.2.2.2.2.2.2.2.2]
                exact HFq.out.1
          · have hbx : (x == p.labels - 1) = false := by simpa using hxe
            have Hxe := Lib.hid hxe
            clear hxe
            refine wp_region_flow 10 (Since W3) (by kernel_rfl) (by kernel_rfl) (by simp) (since_drew (since_refl _)) ?_
            simp only [List.take_succ_cons, List.take_zero, List.drop_succ_cons, List.drop_zero]
            refine flow_val (v := ?_) rfl ?_ ?_; rotate_left; (intro W hW; go_simp; with_reducible rfl)
            simp only [Act.put, List.setIfInBounds_toArray, List.set_cons_succ, List.set_cons_zero]
            refine flow_val (v := ?_) rfl ?_ ?_; rotate_left; (intro W hW; go_simp; with_reducible rfl)
            simp only [Act.put, List.setIfInBounds_toArray, List.set_cons_succ, List.set_cons_zero]
            refine flow_val (v := ?_) rfl ?_ ?_; rotate_left; (intro W hW; go_simp; with_reducible rfl)
            simp only [Act.put, List.setIfInBounds_toArray, List.set_cons_succ, List.set_cons_zero]
            refine flow_val (v := ?_) rfl ?_ ?_; rotate_left; (intro W hW; go_simp; with_reducible rfl)
            simp only [Act.put, List.setIfInBounds_toArray, List.set_cons_succ, List.set_cons_zero]
            refine flow_val (v := ?_) rfl ?_ ?_; rotate_left; (intro W hW; go_simp; with_reducible rfl)
            simp only [Act.put, List.setIfInBounds_toArray, List.set_cons_succ, List.set_cons_zero]
            refine flow_val (v := ?_) rfl ?_ ?_; rotate_left; (intro W hW; go_simp; with_reducible rfl)
            simp only [Act.put, List.setIfInBounds_toArray, List.set_cons_succ, List.set_cons_zero]
            refine flow_val (v := ?_) rfl ?_ ?_; rotate_left; (intro W hW; go_simp; with_reducible rfl)
            simp only [Act.put, List.setIfInBounds_toArray, List.set_cons_succ, List.set_cons_zero]
            refine flow_val (v := ?_) rfl ?_ ?_; rotate_left; (intro W hW; go_simp; with_reducible rfl)
            simp only [Act.put, List.setIfInBounds_toArray, List.set_cons_succ, List.set_cons_zero]
            refine flow_val (v := ?_) rfl ?_ ?_; rotate_left; (intro W hW; go_simp; with_reducible rfl)
            simp only [Act.put, List.setIfInBounds_toArray, List.set_cons_succ, List.set_cons_zero]
            refine flow_val (v := ?_) rfl ?_ ?_; rotate_left; (intro W hW; go_simp; with_reducible rfl)
            simp only [Act.put, List.setIfInBounds_toArray, List.set_cons_succ, List.set_cons_zero]
            intro W4 hW4
            have HW4 := Lib.hid (Hs12.out.after (HW3.out.after hW4))
            obtain ⟨y1, y2, y3, y4⟩ := (Hm1.out.1.keepB HW4.out.below).labelAt Hrow.out Hx.out (Hl1.out W4 hW4)
            have y9 := Hl9.out W4 hW4
            have HSm4 := Lib.hid (Hm1.out.1.keepB HW4.out.below)
            have HE4 := Lib.hid (HE.out.below (HW3.out.after hW4).below HE.out.lt)
            clear hW4 m2 m00 hbx
            by_cases hms : st = most
            · have hbm : (st == most) = true := by simpa using hms
              have hRR : Hid (R = (s1, 3, l, (q : Int), st)) := by show _ = _; rw [Hx1.out, Hstep.out, if_neg Hxe.out, if_pos hms]
              clear hms y1 y2 y3 y4
              go_wp2
              go_ret
              rw [hRR.out]
              exact ⟨rfl, HSm4.out, HJk.out _ _ _ Hm1.out.2.1 (Only.of_below HW4.out.below), Hb1.out.trans (HW4.out.below.mono (Nat.le_trans hBs (Nat.le_of_lt Hm1.out.1.1.lt)))⟩
            · have hbm : (st == most) = false := by simpa using hms
              have Hms := Lib.hid hms
              obtain ⟨n1, n2, n3⟩ := y4 (x + 1)
              obtain ⟨m1, m2, m3⟩ := n1.field hBs 9 (.int .i64 (st + 1))
              have wx : IntKind.i64.wrap (x + 1) = x + 1 := wr64 _ (by omega) (by omega)
              have ws : IntKind.i64.wrap (st + 1) = st + 1 := wr64 _ (by omega) (by omega)
              obtain ⟨W5, hW5⟩ : ∃ W5, W5 = W4.setCell ⟨gr, i, none⟩ (.int .i64 (x + 1)) := ⟨_, rfl⟩
              rw [← hW5] at n1 n2 n3 m1 m2 m3
              obtain ⟨W6, hW6⟩ : ∃ W6, W6 = W5.setCell ⟨sb, 9, none⟩ (.int .i64 (st + 1)) := ⟨_, rfl⟩
              rw [← hW6] at m1 m2 m3
              have HE6 : Hid (BoxA W6 eb #[.int .i64 v, .int .i64 i]) := by
                rw [hW6, hW5]
                exact (HE4.out.set (p := ⟨gr, i, none⟩) (show gr ≠ eb by omega)).set (p := ⟨sb, 9, none⟩) (show sb ≠ eb by omega)
              have z9 := (n1.1.cell 9 (.int .i64 st) rfl).1
              have zf := (n1.1.cell 9 (.int .i64 st) rfl).2
              have hgl : W4.cell? ⟨sb, 9, none⟩ = some (.int .i64 st) := y9
              obtain ⟨lp, hlp⟩ : ∃ lp, lp = putB l ((v : Int), (i : Int)) (x + 1) := ⟨_, rfl⟩
              rw [← hlp] at m1 n1
              have Hlp := Lib.hid hlp
              have HM1 : Hid (SolM W6 sb (arrI p (.slice A1 p.nodes.length c1) (.slice A2 p.edges.length c2) (.slice A3 n.ends.length c3) (.slice A4 n.ids.length c4) (.slice A7 n.inputs.length c7) (.slice (some ⟨gl, 0, none⟩) l0.length c5) (.slice (some ⟨b6, o6, none⟩) ports.length c6) (st + 1)) lp ports (.slice (some ⟨gl, 0, none⟩) l0.length c5) (.slice (some ⟨b6, o6, none⟩) ports.length c6) SL B) := m1
              have HB6 := Lib.hid (Hb1.out.trans ((HW4.out.below.mono (Nat.le_trans hBs (Nat.le_of_lt Hm1.out.1.1.lt))).trans (n2.trans m2)))
              have HJ6 := Lib.hid (HJk.out _ _ _ Hm1.out.2.1 ((Only.of_below HW4.out.below).trans (n3.trans m3)))
              have Hrp : Hid (lp[v]? = some (row.set i (x + 1))) := by show _ = _; rw [hlp]; exact (putB_get Hrow.out hir).1
              have HIp : Hid (Shape n.ends lp ∧ InR (p.labels - 1) lp) := by rw [hlp]; exact ⟨putB_shape Hinv.out.1 Hrow.out hir, putB_inr Hinv.out.2 Hrow.out hir ⟨by omega, by have := Hxe.out; omega⟩⟩
              obtain ⟨rp, hrp⟩ : ∃ rp, rp = row.set i (x + 1) := ⟨_, rfl⟩
              have hrpl : rp.length = row.length := by rw [hrp, List.length_set]
              rw [← hrp] at Hrp Hstep
              rw [← hlp] at Hstep
              have HW5 := Lib.hid hW5
              have HW6 := Lib.hid hW6
              clear hlp hrp n1 n2 n3 m1 m2 m3 y3 y4 hms hW5 hW6
              go_upto_region 20 with (fail)
              rw [← HW5.out]
              clear y1 y2 y9 hgl
              go_upto_region 21 with (fail)
              rw [← HW6.out]
              clear z9 zf
              obtain ⟨d0, d1, d2, d3, d4, d5, d6, d7, d8, d9⟩ := arrI_cells HM1.out.1
              have a0 := have_cell d0
              have a1 := have_cell d1
              have a2 := have_cell d2
              have a3 := have_cell d3
              have a4 := have_cell d4
              have a5 := have_cell d5
              have a6 := have_cell d6
              have a7 := have_cell d7
              have g0 : ∀ W, Since W6 W → W.cell? ⟨eb, 0, none⟩ = some (.int .i64 v) := have_cell (HE6.out.cell 0 _ rfl).1
              have g1 : ∀ W, Since W6 W → W.cell? ⟨eb, 1, none⟩ = some (.int .i64 i) := have_cell (HE6.out.cell 1 _ rfl).1
              have hB6 : B ≤ W6.heap.size := Nat.le_trans hBs (Nat.le_of_lt HM1.out.1.lt)
              have hirp : i < rp.length := by omega
              clear d0 d1 d2 d3 d4 d5 d6 d7 d8 d9
              refine wp_region_flow 30 (Since W6) (by kernel_rfl) (by kernel_rfl) (by simp) (since_drew (since_refl _)) ?_
              simp only [List.take_succ_cons, List.take_zero, List.drop_succ_cons, List.drop_zero]
              refine flow_val (v := ?_) rfl ?_ ?_; rotate_left; (intro W hW; go_simp; with_reducible rfl)
              simp only [Act.put, List.setIfInBounds_toArray, List.set_cons_succ, List.set_cons_zero]
              refine flow_val (v := ?_) rfl ?_ ?_; rotate_left; (intro W hW; go_simp; with_reducible rfl)
              simp only [Act.put, List.setIfInBounds_toArray, List.set_cons_succ, List.set_cons_zero]
              refine flow_val (v := ?_) rfl ?_ ?_; rotate_left; (intro W hW; go_simp; with_reducible rfl)
              simp only [Act.put, List.setIfInBounds_toArray, List.set_cons_succ, List.set_cons_zero]
              refine flow_val (v := ?_) rfl ?_ ?_; rotate_left; (intro W hW; go_simp; with_reducible rfl)
              simp only [Act.put, List.setIfInBounds_toArray, List.set_cons_succ, List.set_cons_zero]
              refine flow_val (v := ?_) rfl ?_ ?_; rotate_left; (intro W hW; go_simp; with_reducible rfl)
              simp only [Act.put, List.setIfInBounds_toArray, List.set_cons_succ, List.set_cons_zero]
              refine flow_val (v := ?_) rfl ?_ ?_; rotate_left; (intro W hW; go_simp; with_reducible rfl)
              simp only [Act.put, List.setIfInBounds_toArray, List.set_cons_succ, List.set_cons_zero]
              refine flow_val (v := ?_) rfl ?_ ?_; rotate_left; (intro W hW; go_simp; with_reducible rfl)
              simp only [Act.put, List.setIfInBounds_toArray, List.set_cons_succ, List.set_cons_zero]
              refine flow_val (v := ?_) rfl ?_ ?_; rotate_left; (intro W hW; go_simp; with_reducible rfl)
              simp only [Act.put, List.setIfInBounds_toArray, List.set_cons_succ, List.set_cons_zero]
              refine flow_val (v := ?_) rfl ?_ ?_; rotate_left; (intro W hW; go_simp; with_reducible rfl)
              simp only [Act.put, List.setIfInBounds_toArray, List.set_cons_succ, List.set_cons_zero]
              refine flow_val (v := ?_) rfl ?_ ?_; rotate_left; (intro W hW; go_simp; with_reducible rfl)
              simp only [Act.put, List.setIfInBounds_toArray, List.set_cons_succ, List.set_cons_zero]
              refine flow_val (v := ?_) rfl ?_ ?_; rotate_left; (intro W hW; go_simp; with_reducible rfl)
              simp only [Act.put, List.setIfInBounds_toArray, List.set_cons_succ, List.set_cons_zero]
              refine flow_val (v := ?_) rfl ?_ ?_; rotate_left; (intro W hW; go_simp; with_reducible rfl)
              simp only [Act.put, List.setIfInBounds_toArray, List.set_cons_succ, List.set_cons_zero]
              refine flow_val (v := ?_) rfl ?_ ?_; rotate_left; (intro W hW; go_simp; with_reducible rfl)
              simp only [Act.put, List.setIfInBounds_toArray, List.set_cons_succ, List.set_cons_zero]
              refine flow_val (v := ?_) rfl ?_ ?_; rotate_left; (intro W hW; go_simp; with_reducible rfl)
              simp only [Act.put, List.setIfInBounds_toArray, List.set_cons_succ, List.set_cons_zero]
              refine flow_val (v := ?_) rfl ?_ ?_; rotate_left; (intro W hW; go_simp; with_reducible rfl)
              simp only [Act.put, List.setIfInBounds_toArray, List.set_cons_succ, List.set_cons_zero]
              refine flow_val (v := ?_) rfl ?_ ?_; rotate_left; (intro W hW; go_simp; with_reducible rfl)
              simp only [Act.put, List.setIfInBounds_toArray, List.set_cons_succ, List.set_cons_zero]
              refine flow_op ?_ rfl ?_ ?_; rotate_left; (intro W hW; unfold Gives; go_simp; (with_reducible refine (edgeHolds_any _ _ _ _ _ _ p n lp v i rp W (HPp.out W (HB6.out.trans (hW.below.mono hB6))) (HNn.out W (HB6.out.trans (hW.below.mono hB6))) (HM1.out.keepB hW.below).rows hn HIp.out.1 Hst.out hel Hrp.out hirp).mono ?_); rintro e W' ⟨rfl, hb3⟩; first | (refine ⟨?_, Since.trans hW hb3⟩; with_reducible rfl) | (subst hb3; refine ⟨?_, hW⟩; with_reducible rfl))
              simp only [Act.put, List.setIfInBounds_toArray, List.set_cons_succ, List.set_cons_zero]
              refine flow_val (v := ?_) rfl ?_ ?_; rotate_left; (intro W hW; go_simp; with_reducible rfl)
              simp only [Act.put, List.setIfInBounds_toArray, List.set_cons_succ, List.set_cons_zero]
              refine flow_gval (v := ?_) rfl rfl ?_ ?_; rotate_left; (intro hb; intro W hW; go_simp; with_reducible rfl)
              simp only [Act.put, List.setIfInBounds_toArray, List.set_cons_succ, List.set_cons_zero]
              refine flow_gval (v := ?_) rfl rfl ?_ ?_; rotate_left; (intro hb; intro W hW; go_simp; with_reducible rfl)
              simp only [Act.put, List.setIfInBounds_toArray, List.set_cons_succ, List.set_cons_zero]
              refine flow_gval (v := ?_) rfl rfl ?_ ?_; rotate_left; (intro hb; intro W hW; go_simp; with_reducible rfl)
              simp only [Act.put, List.setIfInBounds_toArray, List.set_cons_succ, List.set_cons_zero]
              refine flow_gval (v := ?_) rfl rfl ?_ ?_; rotate_left; (intro hb; intro W hW; go_simp; with_reducible rfl)
              simp only [Act.put, List.setIfInBounds_toArray, List.set_cons_succ, List.set_cons_zero]
              refine flow_gval (v := ?_) rfl rfl ?_ ?_; rotate_left; (intro hb; intro W hW; go_simp; with_reducible rfl)
              simp only [Act.put, List.setIfInBounds_toArray, List.set_cons_succ, List.set_cons_zero]
              refine flow_gval (v := ?_) rfl rfl ?_ ?_; rotate_left; (intro hb; intro W hW; go_simp; with_reducible rfl)
              simp only [Act.put, List.setIfInBounds_toArray, List.set_cons_succ, List.set_cons_zero]
              refine flow_gval (v := ?_) rfl rfl ?_ ?_; rotate_left; (intro hb; intro W hW; go_simp; with_reducible rfl)
              simp only [Act.put, List.setIfInBounds_toArray, List.set_cons_succ, List.set_cons_zero]
              refine flow_gval (v := ?_) rfl rfl ?_ ?_; rotate_left; (intro hb; intro W hW; go_simp; with_reducible rfl)
              simp only [Act.put, List.setIfInBounds_toArray, List.set_cons_succ, List.set_cons_zero]
              refine flow_gval (v := ?_) rfl rfl ?_ ?_; rotate_left; (intro hb; intro W hW; go_simp; with_reducible rfl)
              simp only [Act.put, List.setIfInBounds_toArray, List.set_cons_succ, List.set_cons_zero]
              refine flow_gval (v := ?_) rfl rfl ?_ ?_; rotate_left; (intro hb; intro W hW; go_simp; with_reducible rfl)
              simp only [Act.put, List.setIfInBounds_toArray, List.set_cons_succ, List.set_cons_zero]
              refine flow_gop (v := ?_) rfl rfl ?_ ?_; rotate_left; (intro hb; intro W hW; unfold Gives; go_simp; (with_reducible refine (nodeHolds_any _ _ _ p lp v rp W (HPp.out W (HB6.out.trans (hW.below.mono hB6))) (HM1.out.keepB hW.below).rows Hrp.out (by omega)).mono ?_); rintro e W' ⟨rfl, hb3⟩; first | (refine ⟨?_, Since.trans hW hb3⟩; with_reducible rfl) | (subst hb3; refine ⟨?_, hW⟩; with_reducible rfl))
              simp only [Act.put, List.setIfInBounds_toArray, List.set_cons_succ, List.set_cons_zero]
              first | refine flow_and rfl rfl ?_ | (refine flow_val (v := ?_) rfl ?_ ?_; rotate_left; (intro W hW; go_simp; with_reducible rfl))
              simp only [Act.put, List.setIfInBounds_toArray, List.set_cons_succ, List.set_cons_zero]
              intro W7 hW7
              have HM7 := Lib.hid (HM1.out.keepB hW7.below)
              have HB7 := Lib.hid (HB6.out.trans (hW7.below.mono hB6))
              have HJ7 := Lib.hid (HJk.out _ _ _ HJ6.out (Only.of_below hW7.below))
              clear a0 a1 a2 a3 a4 a5 a6 a7 g0 g1 hW7
              have HFq : Hid ((soMeas most (q : Int) (st + 1) < M0 ∧ soMeas most (q : Int) (st + 1) ≤ F) ∧ (soMeas most ((q : Int) + 1) (st + 1) < M0 ∧ soMeas most ((q : Int) + 1) (st + 1) ≤ F)) := by have := Hle.out; have := HF1.out; unfold soMeas at *; exact ⟨⟨by omega, by omega⟩, ⟨by omega, by omega⟩⟩
              have wq : IntKind.i64.wrap ((q : Int) + 1) = (q : Int) + 1 := wr64 _ (by omega) (by omega)
              cases hg : (portB p n.ends lp ((v : Int), (i : Int)) && nodeB p rp)
              · have Hn2 : Hid (R = soAll nx p n.ends ports most F s1 lp q (st + 1)) := by show _ = _; rw [Hx1.out, Hstep.out, if_neg Hxe.out, if_neg Hms.out, if_neg (by rw [Bool.and_comm, hg]; simp)]
                go_wp2
                go_roundw
                case rel => exact ⟨s1, lp, q, st + 1, rfl, by omega, by omega, by omega, by have := Hms.out; omega, ⟨Hn2.out, HFq.out.1.2⟩, ⟨HM7.out, HJ7.out, Hm1.out.2.2⟩, HIp.out, HB7.out⟩
                case measure =>
                  rw [HM0.out, stAt_of (arrI_cells HM7.out.1).2.2.2.2.2.2.2.2.2]
                  exact HFq.out.1.1
              · have Hn2 : Hid (R = soAll nx p n.ends ports most F s1 lp ((q : Int) + 1) (st + 1)) := by show _ = _; rw [Hx1.out, Hstep.out, if_neg Hxe.out, if_neg Hms.out, if_pos (by rw [Bool.and_comm, hg])]
                go_wp2
                go_roundw
                case rel => exact ⟨s1, lp, (q : Int) + 1, st + 1, by go_num, by omega, by omega, by omega, by have := Hms.out; omega, ⟨Hn2.out, HFq.out.2.2⟩, ⟨HM7.out, HJ7.out, Hm1.out.2.2⟩, HIp.out, HB7.out⟩
                case measure =>
                  rw [HM0.out, stAt_of (arrI_cells HM7.out.1).2.2.2.2.2.2.2.2.2]
                  exact HFq.out.2.1end Go.Proofs.YtomnaabadohecaaGreat
namespace Go.Proofs.YtomnaabadohecaaGreat
open Go.RowKit
/-! partial labelings -/
end Go.Proofs.YtomnaabadohecaaGreat
namespace Go.Proofs.YtomnaabadohecaaGreat
open Go.RowKit
/-! solving from a partial labeling -/
theorem shape_r6 {n : Net} {l : List (List Int)} (hn : netOk n = true) (hs : Shape n.ends l) : l.length ≤ 40 ∧ ∀ (v : Nat) (row : List Int), l[v]? = some row → row.length ≤ 6 := by
  obtain ⟨h1, h2⟩ := netOk_r6 hn
  refine ⟨by rw [hs.1]; exact h1, fun v row hv => ?_⟩
  obtain ⟨es, hes⟩ := getx n.ends v (by rw [← hs.1]; exact lt_of_get hv)
  rw [hs.2 v es row hes hv]
  exact h2 v es hes
theorem szR_bound {l : List (List Int)} (h : ∀ (v : Nat) (row : List Int), l[v]? = some row → row.length ≤ 6) : szR l ≤ 6 * l.length := by
  have h' : ∀ x ∈ l, x.length ≤ 6 := fun x hx => by
    obtain ⟨k, hk⟩ := List.getElem?_of_mem hx
    exact h k x hk
  clear h
  unfold szR
  induction l with
  | nil => simp
  | cons a l ih =>
    have h1 := h' a (by simp)
    have h2 := ih fun x hx => h' x (by simp [hx])
    simp only [List.map_cons, List.sum_cons, List.length_cons]
    omega
end Go.Proofs.YtomnaabadohecaaGreat
namespace Go.Proofs.YtomnaabadohecaaGreat
open Go.RowKit
/-! lists of lists of lists of integers: read, compared, marked, held -/
def IntSSS (w : World) (v : Value) (xss : List (List (List Int))) : Prop :=
  ∃ (A : Option Addr) (c : Nat), v = .slice A xss.length c ∧ xss.length ≤ c ∧ c ≤ maxLen ∧
    (∀ k xs, xss[k]? = some xs → ∃ b off u, A = some ⟨b, off, none⟩ ∧ w.cell? ⟨b, off + k, none⟩ = some u ∧ IntSS w u xs)
theorem IntSSS.keep {w w' : World} {v : Value} {xs : List (List (List Int))} (h : IntSSS w v xs) (hb : Below w.heap.size w w') : IntSSS w' v xs := by
  obtain ⟨A, c, hv, hc, hm, hA⟩ := h
  refine ⟨A, c, hv, hc, hm, fun k x hk => ?_⟩
  obtain ⟨b, off, u, hA', h1, h2⟩ := hA k x hk
  exact ⟨b, off, u, hA', bc hb h1, h2.keep hb⟩
def OwnIII : World → Nat → Value → List (List (List Int)) → List Nat → Prop := OwnRows 22 OwnII
theorem lawIII : RowLaw OwnIII := rows_law _ lawII
theorem OwnIII.read {w : World} {base : Nat} {v : Value} {ess : List (List (List Int))} {S : List Nat} (h : OwnIII w base v ess S) : IntSSS w v ess := by
  obtain ⟨vs, Ss, h1, h2, h3, h4, h5⟩ := h
  rcases ownsRow_cases h1 with ⟨rfl, h0⟩ | ⟨g, c, rfl, hb, hg, hc, hm⟩
  · obtain rfl : ess = [] := List.eq_nil_of_length_eq_zero h0
    exact ⟨none, 0, rfl, Nat.le_refl _, Nat.zero_le _, fun k x hk => by simp at hk⟩
  · have hvl : vs.length = ess.length := by simpa using h1.1
    refine ⟨_, c, rfl, hc, hm, fun k x hk => ?_⟩
    have hlt := lt_of_get hk
    obtain ⟨u, hu⟩ := getx vs k (by omega)
    obtain ⟨T, hT⟩ := getx Ss k (by omega)
    exact ⟨g, 0, u, rfl, by rw [Nat.zero_add, h1.cellAt (cap := c) _ (by omega)]; exact hu, OwnII.read (h3 k u x T hu hk hT)⟩
def szT (ess : List (List (List Int))) : Nat := (ess.map szR).sum
theorem szT_snoc {ess : List (List (List Int))} {k : Nat} {es : List (List Int)} (h : ess[k]? = some es) : szT (ess.take (k + 1)) = szT (ess.take k) + szR es := by
  unfold szT
  rw [List.take_add_one, h]; simp
theorem szT_le (ess : List (List (List Int))) (k : Nat) : szT (ess.take k) ≤ szT ess := by
  unfold szT
  conv => rhs; rw [← List.take_append_drop k ess]
  rw [List.map_append, List.sum_append]; omega
set_option maxHeartbeats 2000000 in
theorem eqIntSSS_same (v u : Value) (xs : List (List (List Int))) (w : World) (h : IntSSS w v xs) (h' : IntSSS w u xs) :
    Calls Tryz.prog 53 #[v, u] w fun e w' => e = .returned (.bool true) ∧ Below w.heap.size w w' := by
  obtain ⟨A, c, rfl, hlc, hm, hA⟩ := h
  obtain ⟨B, d, rfl, hld, hmd, hB⟩ := h'
  unfold maxLen at hm hmd
  have HA := Lib.hid hA
  have HB := Lib.hid hB
  clear hA hB
  go_enter Tryz.func53, Tryz.ntmps53
  go_wp2
  go_loopw [5] (fun i wr => ∃ k : Nat, k ≤ xs.length ∧ i = .int .i64 k ∧ Below w.heap.size w wr) (fun i _ => xs.length - (intOf i).toNat)
  case atStart => exact ⟨0, Nat.zero_le _, rfl, Below.refl _ _⟩
  case round =>
    obtain ⟨k, hk, rfl, hbl⟩ := hrel
    have Hbl := Lib.hid hbl
    clear hbl
    by_cases hlt : k < xs.length
    · obtain ⟨x, hx⟩ := getx xs k hlt
      obtain ⟨b, off, u1, rfl, hc1, hr1⟩ := HA.out k x hx
      obtain ⟨b', off', u2, rfl, hc2, hr2⟩ := HB.out k x hx
      have k1 := bc Hbl.out hc1
      have k2 := bc Hbl.out hc2
      have Hr1 := Lib.hid (hr1.keep Hbl.out)
      have Hr2 := Lib.hid (hr2.keep Hbl.out)
      obtain ⟨A1, z1, rfl, _⟩ := hr1
      obtain ⟨A2, z2, rfl, _⟩ := hr2
      clear hc1 hc2 hx
      go_wp2
      go_region_held3 (fun w' => w'.cell? ⟨b, off + k, none⟩ = some (.slice A1 x.length z1) ∧ w'.cell? ⟨b', off' + k, none⟩ = some (.slice A2 x.length z2)) (first | exact ⟨k1, k2⟩ | exact ⟨bc hb1 k1, bc hb1 k2⟩)
        (first | (go_at_call 45; refine (eqIntSS_same _ _ x _ (by exact Hr1.out) (by exact Hr2.out)).mono ?_; rintro e w1 ⟨rfl, hb1⟩))
      have Hb2 := Lib.hid (Hbl.out.drew.trans (hb1.mono (show w.heap.size ≤ wr.heap.size from Hbl.out.size)))
      clear hb1
      go_wp2
      go_roundw
      case rel => exact ⟨k + 1, by omega, by go_num, Hb2.out⟩
      case measure => simp [intOf]; omega
    · go_wp2
      go_ret
      exact ⟨rfl, Hbl.out⟩
-- the marks
def mkIII : Nat → List (List (List Int)) → List (List (List Int))
  | _, [] => []
  | k, es :: r => mkII k es :: mkIII (k + szR es) r
theorem mkIII_append (k : Nat) (a b : List (List (List Int))) : mkIII k (a ++ b) = mkIII k a ++ mkIII (k + szT a) b := by
  induction a generalizing k with
  | nil => simp [mkIII, szT]
  | cons x a ih => simp [mkIII, szT, ih, Nat.add_assoc]
theorem mkIII_len (k : Nat) (a : List (List (List Int))) : (mkIII k a).length = a.length := by
  induction a generalizing k with
  | nil => rfl
  | cons x a ih => simp [mkIII, ih]
theorem mkIII_set (a ess : List (List (List Int))) (j : Nat) (y : List (List Int)) (hl : a.length = j) (h : j < ess.length) : (a ++ ess.drop j).set j y = (a ++ [y]) ++ ess.drop (j + 1) := by
  rw [List.set_append_right _ _ (by omega), hl, Nat.sub_self, List.drop_eq_getElem_cons h, List.set_cons_zero, List.append_assoc]
  rfl
set_option maxHeartbeats 1600000 in
theorem markIntSSS_any (v : Value) (ess : List (List (List Int))) (k : Nat) (w : World) (base : Nat) (S : List Nat) (h : OwnIII w base v ess S) (hl : k + szT ess ≤ 4611686018427387904) :
    Calls Tryz.prog 54 #[v, .int .i64 k] w fun e w' => e = .returned (.int .i64 ((k + szT ess : Nat) : Int)) ∧ OwnIII w' base v (mkIII k ess) S ∧ Only S w w' := by
  rcases (show _ ∨ _ by obtain ⟨vs, Ss, h1, _⟩ := h; exact ownsRow_cases h1) with ⟨rfl, h0⟩ | ⟨g, c, rfl, hb1, hb2, hb3, hb4⟩
  · obtain rfl : ess = [] := List.eq_nil_of_length_eq_zero h0
    go_enter Tryz.func54, Tryz.ntmps54
    go_wp2
    go_loop [1, 5] (fun m i => m = .int .i64 k ∧ i = .int .i64 0) (fun _ _ => 0)
    case atStart => exact ⟨rfl, rfl⟩
    case round =>
      obtain ⟨rfl, rfl⟩ := hrel
      go_wp2
      go_ret
      exact ⟨ret_int (by simp [szT]), h, Only.refl _ _⟩
  · have Ho := Lib.hid h
    clear h
    unfold maxLen at hb4
    go_enter Tryz.func54, Tryz.ntmps54
    go_wp2
    go_loopw [1, 5] (fun m i wr => ∃ j : Nat, j ≤ ess.length ∧ i = .int .i64 j ∧ m = .int .i64 ((k + szT (ess.take j) : Nat) : Int) ∧ OwnIII wr base (.slice (some ⟨g, 0, none⟩) ess.length c) (mkIII k (ess.take j) ++ ess.drop j) S ∧ Only S w wr) (fun _ i _ => ess.length - (intOf i).toNat)
    case atStart => exact ⟨0, Nat.zero_le _, rfl, by simp [szT], by simpa [mkIII] using Ho.out, Only.refl _ _⟩
    case round =>
      obtain ⟨j, hj, rfl, rfl, ho, hg⟩ := hrel
      have hct := szT_le ess j
      by_cases hlt : j < ess.length
      · obtain ⟨es, hes⟩ := getx ess j hlt
        have hct2 := szT_le ess (j + 1)
        rw [szT_snoc hes] at hct2
        have hml : (mkIII k (ess.take j)).length = j := by rw [mkIII_len]; simp; omega
        have hy : (mkIII k (ess.take j) ++ ess.drop j)[j]? = some es := by
          rw [List.getElem?_append_right (by omega), hml, Nat.sub_self, List.getElem?_drop]; simpa using hes
        obtain ⟨u, T, hc1, hR, hTS, hback⟩ := OwnRows.touch lawII ho hy
        have Hs := Lib.hid hback
        have HR := Lib.hid hR
        have HTS := Lib.hid hTS
        have Hg := Lib.hid hg
        have Hes := Lib.hid hes
        have Hml := Lib.hid hml
        obtain ⟨A1, n1, z1, rfl⟩ := lawII.one hR
        clear hy ho hg hR hback hes hml hTS
        obtain ⟨cn, hcn⟩ : ∃ cn, szT (ess.take j) = cn := ⟨_, rfl⟩
        rw [hcn] at hct2 ⊢
        have Hcn := Lib.hid hcn
        clear hcn hct
        go_wp2_with fail
        refine (markIntSS_any _ es (k + cn) _ base T HR.out (by omega)).mono ?_
        rintro e w1 ⟨rfl, ho1, hon⟩
        have Hon := Lib.hid (Hg.out.trans (hon.mono HTS.out))
        have Hrow := Lib.hid (Hs.out _ w1 ho1 hon)
        clear ho1 hon
        go_wp2
        go_roundw
        case rel =>
          refine ⟨j + 1, by omega, by go_num, ?_, ?_, Hon.out⟩
          · rw [szT_snoc Hes.out, Hcn.out]
            congr 1
            omega
          · rw [take_snoc Hes.out, mkIII_append, Hcn.out]
            have := Hrow.out
            rw [mkIII_set _ _ _ _ Hml.out hlt] at this
            exact this
        case measure => simp [intOf]; omega
      · obtain rfl : j = ess.length := by omega
        have Ho1 := Lib.hid ho
        have Hg := Lib.hid hg
        clear ho hg
        go_wp2
        go_ret
        exact ⟨ret_int (by simp), by have := Ho1.out; rwa [List.drop_length, List.append_nil, List.take_length] at this, Hg.out⟩
theorem heldIntSSS_any (v : Value) (ess : List (List (List Int))) (k : Nat) (w : World) (h : IntSSS w v (mkIII k ess)) (hl : k + szT ess ≤ 4611686018427387904) :
    Calls Tryz.prog 55 #[v, .int .i64 k] w fun e w' => e = .returned (.int .i64 ((k + szT ess : Nat) : Int)) ∧ w = w' := by
  obtain ⟨A, c, rfl, hlc, hm, hA⟩ := h
  rw [mkIII_len] at hlc ⊢
  unfold maxLen at hm
  have HA := Lib.hid hA
  clear hA
  go_enter Tryz.func55, Tryz.ntmps55
  go_wp2
  go_loop [1, 5] (fun m i => ∃ j : Nat, j ≤ ess.length ∧ i = .int .i64 j ∧ m = .int .i64 ((k + szT (ess.take j) : Nat) : Int)) (fun _ i => ess.length - (intOf i).toNat)
  case atStart => exact ⟨0, Nat.zero_le _, rfl, by simp [szT]⟩
  case round =>
    obtain ⟨j, hj, rfl, rfl⟩ := hrel
    by_cases hlt : j < ess.length
    · obtain ⟨es, hes⟩ := getx ess j hlt
      have hct2 := szT_le ess (j + 1)
      rw [szT_snoc hes] at hct2
      have hy : (mkIII k ess)[j]? = some (mkII (k + szT (ess.take j)) es) := by
        conv => lhs; rw [← List.take_append_drop j ess, mkIII_append]
        rw [List.getElem?_append_right (by rw [mkIII_len]; simp; omega), mkIII_len]
        obtain ⟨hj', rfl⟩ := List.getElem?_eq_some_iff.1 hes
        rw [List.drop_eq_getElem_cons hj', List.length_take, Nat.min_eq_left (by omega), Nat.sub_self]
        rfl
      obtain ⟨b, off, u, rfl, hc1, hr⟩ := HA.out j _ hy
      have Hr := Lib.hid hr
      have Hes := Lib.hid hes
      obtain ⟨A1, z1, rfl, _⟩ := hr
      clear hy hes
      obtain ⟨cn, hcn⟩ : ∃ cn, szT (ess.take j) = cn := ⟨_, rfl⟩
      rw [hcn] at hct2 hc1 ⊢
      have Hcn := Lib.hid hcn
      have Hr2 := Lib.hid (show IntSS w (Value.slice A1 (mkII (k + cn) es).length z1) (mkII (k + cn) es) by have := Hr.out; rwa [hcn] at this)
      clear hcn Hr
      go_wp2_with fail
      refine (heldIntSS_any _ es (k + cn) _ (by exact Hr2.out) (by omega)).mono ?_
      rintro e w1 ⟨rfl, rfl⟩
      go_wp2
      go_round
      case rel =>
        refine ⟨j + 1, by omega, by go_num, ?_⟩
        rw [szT_snoc Hes.out, Hcn.out]
        congr 1
        omega
      case measure => simp [intOf]; omega
    · obtain rfl : j = ess.length := by omega
      go_wp2
      go_ret
      exact ⟨ret_int (by simp), rfl⟩
end Go.Proofs.YtomnaabadohecaaGreat
