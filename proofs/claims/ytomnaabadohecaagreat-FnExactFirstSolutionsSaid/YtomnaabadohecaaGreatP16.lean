/- Parts of the proof: walks of functions and plain laws. -/
import Derived.Test.YtomnaabadohecaaGreatP15
import Derived.Test.YtomnaabadohecaaGreatP10
import Derived.Deep.CutRange
namespace Go.Proofs.YtomnaabadohecaaGreat
open Go.RowKit
/-! the reference's search: it writes its own blocks alone -/
structure FrS (B : Nat) (S : List Nat) (w w' : World) : Prop where
  b : Below B w w'
  o : Only S w w'
theorem FrS.refl (B : Nat) (S : List Nat) (w : World) : FrS B S w w := ⟨Below.refl _ _, Only.refl _ _⟩
theorem FrS.trans {B : Nat} {S : List Nat} {a b c : World} (h : FrS B S a b) (k : FrS B S b c) : FrS B S a c := ⟨h.b.trans k.b, h.o.trans k.o⟩
theorem FrS.of {B : Nat} {S : List Nat} {a b : World} (h : Below a.heap.size a b) (hB : B ≤ a.heap.size) : FrS B S a b := ⟨h.mono hB, Only.of_below h⟩
set_option maxRecDepth 100000 in
set_option maxHeartbeats 16000000 in
theorem soRun_only (p : Prob) (n : Net) (pa pb va vb vc ul uf : Value) (sb : Nat) (SL : List Nat) (B : Nat) (ports : List (Int × Int)) (most i0 st0 : Int) (fr : Bool) (l0 : List (List Int)) (w : World) (hBs : B ≤ sb)
    (hPp : ∀ X, Below B w X → PrIn X pa pb p) (hNn : ∀ X, Below B w X → NetIn X va vb vc n)
    (hS : SolM w sb (arrS p pa pb va vb vc ul uf i0 st0 most fr) l0 ports ul uf SL B) (hn : netOk n = true) (hst : Strict p.edges) (hel : p.edges.length ≤ 1048576) (hlab : 1 ≤ p.labels ∧ p.labels ≤ 8) (hsh : Shape n.ends l0) (hin : InR (p.labels - 1) l0) (hpo : PortsIn n.ends ports) (hpl : ports.length ≤ 1000) (hmo : 0 ≤ most ∧ most ≤ 200000)
    (hi0 : 0 ≤ i0 ∧ i0 ≤ ports.length) (hs0 : 0 ≤ st0 ∧ st0 ≤ most)
    (hr6 : ∀ (v : Nat) (es : List (Int × Int)), n.ends[v]? = some es → es.length ≤ 6) :
    Calls Tryz.prog 97 #[.pointer (some ⟨sb, 0, none⟩)] w fun e w' =>
      e = .returned (.int .i64 (soQ p n.ends ports most fr l0 i0 st0).1) ∧ SolM w' sb (arrS p pa pb va vb vc ul uf (soQ p n.ends ports most fr l0 i0 st0).2.2.1 (soQ p n.ends ports most fr l0 i0 st0).2.2.2 most false) (soQ p n.ends ports most fr l0 i0 st0).2.1 ports ul uf SL B ∧
        (Shape n.ends (soQ p n.ends ports most fr l0 i0 st0).2.1 ∧ InR (p.labels - 1) (soQ p n.ends ports most fr l0 i0 st0).2.1) ∧ FrS B (sb :: SL) w w' := by
  have hBw : B ≤ w.heap.size := Nat.le_trans hBs (Nat.le_of_lt hS.1.lt)
  obtain ⟨A5, c5, hul, -⟩ := id hS.2.1.read
  obtain ⟨TE, hTE⟩ := hS.2.2.2
  obtain ⟨A6, c6, huf, -, -, -⟩ := end_at hTE
  obtain ⟨A1, c1, hpa, -⟩ := id (hPp w (Below.refl _ _)).1
  obtain ⟨A2, c2, hpb, -⟩ := id (hPp w (Below.refl _ _)).2
  obtain ⟨A3, c3, hva, -⟩ := id (hNn w (Below.refl _ _)).1
  obtain ⟨A4, c4, hvb, -⟩ := id (hNn w (Below.refl _ _)).2.1
  obtain ⟨A7, c7, hvc, -⟩ := id (hNn w (Below.refl _ _)).2.2
  subst hul huf hpa hpb hva hvb hvc
  have hwl : IntKind.i64.wrap (p.labels - 1) = p.labels - 1 := wr64 _ (by omega) (by omega)
  have HPp := Lib.hid hPp
  have HNn := Lib.hid hNn
  have HS := Lib.hid hS
  have Hst := Lib.hid hst
  have Hsh := Lib.hid hsh
  have Hin := Lib.hid hin
  have Hpo := Lib.hid hpo
  have Hr6 := Lib.hid hr6
  have hrl : Hid (∀ (v : Nat) (row : List Int), l0[v]? = some row → row.length ≤ 1000000) := fun v row hv => by
    obtain ⟨es, hes⟩ := getx n.ends v (by rw [← hsh.1]; exact lt_of_get hv)
    have := hsh.2 v es row hes hv
    have := hr6 v es hes
    omega
  obtain ⟨d0, d1, d2, d3, d4, d5, d6, d7, d8, d9, d10, d11, d12⟩ := arrS_cells hS.1
  have f9 := (hS.1.cell 9 (.int .i64 i0) rfl).2
  have f12 := (hS.1.cell 12 (.bool fr) rfl).2
  clear hPp hNn hS hst hsh hin hpo hr6 hTE
  obtain ⟨R, hR⟩ : ∃ R, soQ p n.ends ports most fr l0 i0 st0 = R := ⟨_, rfl⟩
  have HR := Lib.hid hR
  rw [hR]
  clear hR
  obtain ⟨F, hF⟩ : ∃ F, F = soMeas most i0 st0 := ⟨_, rfl⟩
  have HF := Lib.hid hF
  clear hF
  go_enter Tryz.func97, Tryz.ntmps97
  go_upto_if 8 with (fail)
  go_cut [0] from 5 to 32 (fun a wx => a = .pointer (some ⟨sb, 0, none⟩) ∧ ∃ (pos : Int), -1 ≤ pos ∧ pos ≤ ports.length ∧ (R = soGo p n.ends ports most F l0 pos st0 ∧ soMeas most pos st0 ≤ F) ∧ SolM wx sb (arrS p (.slice A1 p.nodes.length c1) (.slice A2 p.edges.length c2) (.slice A3 n.ends.length c3) (.slice A4 n.ids.length c4) (.slice A7 n.inputs.length c7) (.slice A5 l0.length c5) (.slice A6 ports.length c6) pos st0 most false) l0 ports (.slice A5 l0.length c5) (.slice A6 ports.length c6) SL B ∧ FrS B (sb :: SL) w wx)
  case first =>
    cases fr
    · obtain ⟨m1, m2, m3⟩ := HS.out.field hBs 9 (.int .i64 (i0 - 1))
      have HM1 : Hid (SolM (w.setCell ⟨sb, 9, none⟩ (.int .i64 (i0 - 1))) sb (arrS p (.slice A1 p.nodes.length c1) (.slice A2 p.edges.length c2) (.slice A3 n.ends.length c3) (.slice A4 n.ids.length c4) (.slice A7 n.inputs.length c7) (.slice A5 l0.length c5) (.slice A6 ports.length c6) (i0 - 1) st0 most false) l0 ports (.slice A5 l0.length c5) (.slice A6 ports.length c6) SL B) := m1
      have HM2 := Lib.hid (FrS.mk m2 m3)
      have wi : IntKind.i64.wrap (i0 - 1) = i0 - 1 := wr64 _ (by omega) (by omega)
      have hRe : Hid (R = soGo p n.ends ports most F l0 (i0 - 1) st0) := by show _ = _; rw [← HR.out, HF.out]; unfold soQ; rw [if_neg (by simp)]
      have hFe : Hid (soMeas most (i0 - 1) st0 ≤ F) := by show _ ≤ _; rw [HF.out]; unfold soMeas; omega
      clear m1 m2 m3
      go_wp2
      go_meet
      case rel => exact ⟨rfl, i0 - 1, by omega, by omega, ⟨hRe.out, hFe.out⟩, HM1.out, HM2.out⟩
    · obtain ⟨m1, m2, m3⟩ := HS.out.field hBs 12 (.bool false)
      obtain ⟨W1, hW1⟩ : ∃ W1, W1 = w.setCell ⟨sb, 12, none⟩ (.bool false) := ⟨_, rfl⟩
      rw [← hW1] at m1 m2 m3
      have HM1 : Hid (SolM W1 sb (arrS p (.slice A1 p.nodes.length c1) (.slice A2 p.edges.length c2) (.slice A3 n.ends.length c3) (.slice A4 n.ids.length c4) (.slice A7 n.inputs.length c7) (.slice A5 l0.length c5) (.slice A6 ports.length c6) i0 st0 most false) l0 ports (.slice A5 l0.length c5) (.slice A6 ports.length c6) SL B) := m1
      have HM2 := Lib.hid (FrS.mk m2 m3)
      have HW1 := Lib.hid hW1
      clear m1 m2 m3 hW1
      go_upto_region 3 with (fail)
      rw [← HW1.out]
      clear d0 d1 d2 d3 d4 d5 d6 d7 d8 d9 d10 d11 d12 f9 f12
      obtain ⟨d0, d1, d2, d3, d4, d5, d6, d7, -⟩ := arrS_cells HM1.out.1
      have a0 := have_cell d0
      have a1 := have_cell d1
      have a2 := have_cell d2
      have a3 := have_cell d3
      have a4 := have_cell d4
      have a5 := have_cell d5
      have a6 := have_cell d6
      have a7 := have_cell d7
      clear d0 d1 d2 d3 d4 d5 d6 d7
      have hB6 : B ≤ W1.heap.size := Nat.le_trans hBs (Nat.le_of_lt HM1.out.1.lt)
      refine wp_region_flow 14 (Since W1) (by kernel_rfl) (by kernel_rfl) (by simp) (since_drew (since_refl _)) ?_
      simp only [List.take_succ_cons, List.take_zero, List.drop_succ_cons, List.drop_zero]
      refine flow_val (v := ?_) rfl ?_ ?_; rotate_left; (intro W hW; go_simp; with_reducible rfl)
      simp only [Act.put, List.setIfInBounds_toArray, List.set_cons_succ, List.set_cons_zero]
      refine flow_val (v := ?_) rfl ?_ ?_; rotate_left; (intro W hW; go_simp; with_reducible rfl)
      simp only [Act.put, List.setIfInBounds_toArray, List.set_cons_succ, List.set_cons_zero]
      refine flow_val (v := ?_) rfl ?_ ?_; rotate_left; (intro W hW; go_simp; with_reducible rfl)
      simp only [Act.put, List.setIfInBounds_toArray, List.set_cons_succ, List.set_cons_zero]
      refine flow_val (v := ?_) rfl ?_ ?_; rotate_left; (intro W hW; go_simp; with_reducible rfl)
      simp only [Act.put, List.setIfInBounds_toArray, List.set_cons_succ, List.set_cons_zero]
      refine flow_val (v := ?_) rfl ?_ ?_; rotate_left; (intro W hW; go_simp; with_reducible rfl)
      simp only [Act.put, List.setIfInBounds_toArray, List.set_cons_succ, List.set_cons_zero]
      refine flow_val (v := ?_) rfl ?_ ?_; rotate_left; (intro W hW; go_simp; with_reducible rfl)
      simp only [Act.put, List.setIfInBounds_toArray, List.set_cons_succ, List.set_cons_zero]
      refine flow_val (v := ?_) rfl ?_ ?_; rotate_left; (intro W hW; go_simp; with_reducible rfl)
      simp only [Act.put, List.setIfInBounds_toArray, List.set_cons_succ, List.set_cons_zero]
      refine flow_val (v := ?_) rfl ?_ ?_; rotate_left; (intro W hW; go_simp; with_reducible rfl)
      simp only [Act.put, List.setIfInBounds_toArray, List.set_cons_succ, List.set_cons_zero]
      refine flow_val (v := ?_) rfl ?_ ?_; rotate_left; (intro W hW; go_simp; with_reducible rfl)
      simp only [Act.put, List.setIfInBounds_toArray, List.set_cons_succ, List.set_cons_zero]
      refine flow_val (v := ?_) rfl ?_ ?_; rotate_left; (intro W hW; go_simp; with_reducible rfl)
      simp only [Act.put, List.setIfInBounds_toArray, List.set_cons_succ, List.set_cons_zero]
      refine flow_val (v := ?_) rfl ?_ ?_; rotate_left; (intro W hW; go_simp; with_reducible rfl)
      simp only [Act.put, List.setIfInBounds_toArray, List.set_cons_succ, List.set_cons_zero]
      refine flow_val (v := ?_) rfl ?_ ?_; rotate_left; (intro W hW; go_simp; with_reducible rfl)
      simp only [Act.put, List.setIfInBounds_toArray, List.set_cons_succ, List.set_cons_zero]
      refine flow_op ?_ rfl ?_ ?_; rotate_left; (intro W hW; unfold Gives; go_simp; (with_reducible refine (soHolds_any _ _ _ _ _ _ p n l0 W (HPp.out W (HM2.out.trans (FrS.of hW.below hB6)).b) (HNn.out W (HM2.out.trans (FrS.of hW.below hB6)).b) (HM1.out.keepB hW.below).rows hn Hsh.out Hst.out hel hrl.out).mono ?_); rintro e W' ⟨rfl, hb3⟩; first | (refine ⟨?_, Since.trans hW hb3⟩; with_reducible rfl) | (subst hb3; refine ⟨?_, hW⟩; with_reducible rfl))
      simp only [Act.put, List.setIfInBounds_toArray, List.set_cons_succ, List.set_cons_zero]
      refine flow_val (v := ?_) rfl ?_ ?_; rotate_left; (intro W hW; go_simp; with_reducible rfl)
      simp only [Act.put, List.setIfInBounds_toArray, List.set_cons_succ, List.set_cons_zero]
      intro W2 hW2
      have HM3 := Lib.hid (HM1.out.keepB hW2.below)
      have HB3 := Lib.hid (HM2.out.trans (FrS.of hW2.below hB6))
      clear a0 a1 a2 a3 a4 a5 a6 a7 hW2
      cases hg : holdsB p n.ends l0
      · have hRe : Hid (R = (2, l0, i0, st0)) := by show _ = _; rw [← HR.out]; unfold soQ; rw [if_pos rfl, if_neg (by rw [hg]; simp)]
        go_wp2
        go_ret
        rw [hRe.out]
        exact ⟨rfl, HM3.out, ⟨Hsh.out, Hin.out⟩, HB3.out⟩
      · have hRe : Hid (R = soGo p n.ends ports most F l0 i0 st0) := by show _ = _; rw [← HR.out, HF.out]; unfold soQ; rw [if_pos rfl, if_pos hg]
        have hFe : Hid (soMeas most i0 st0 ≤ F) := by show _ ≤ _; rw [HF.out]; exact Nat.le_refl _
        go_wp2
        go_meet
        case rel => exact ⟨rfl, i0, by omega, by omega, ⟨hRe.out, hFe.out⟩, HM3.out, HB3.out⟩
  case rest =>
    obtain ⟨rfl, pos0, hp1, hp2, heq, hmem, hb⟩ := hcut
    have Heq0 := Lib.hid heq
    have Hmem0 := Lib.hid hmem
    have Hb0 := Lib.hid hb
    clear heq hmem hb d0 d1 d2 d3 d4 d5 d6 d7 d8 d9 d10 d11 d12 f9 f12
    go_wp2
    go_loopw [3] (fun _ wr => ∃ (l : List (List Int)) (pos st : Int), -1 ≤ pos ∧ pos ≤ ports.length ∧ 0 ≤ st ∧ st ≤ most ∧ (R = soGo p n.ends ports most F l pos st ∧ soMeas most pos st ≤ F) ∧ SolM wr sb (arrS p (.slice A1 p.nodes.length c1) (.slice A2 p.edges.length c2) (.slice A3 n.ends.length c3) (.slice A4 n.ids.length c4) (.slice A7 n.inputs.length c7) (.slice A5 l0.length c5) (.slice A6 ports.length c6) pos st most false) l ports (.slice A5 l0.length c5) (.slice A6 ports.length c6) SL B ∧ (Shape n.ends l ∧ InR (p.labels - 1) l) ∧ FrS B (sb :: SL) w wr) (fun _ wr => soMeas most (stAt wr sb 9) (stAt wr sb 10))
    case atStart => exact ⟨l0, pos0, st0, hp1, hp2, hs0.1, hs0.2, Heq0.out, Hmem0.out, ⟨Hsh.out, Hin.out⟩, Hb0.out⟩
    case round =>
      obtain ⟨l, pos, st, hq1, hq2, hs1, hs2, heq, hmem, hinv, hb⟩ := hrel
      have Hx1 := Lib.hid heq.1
      have HF1 := Lib.hid heq.2
      have Hm1 := Lib.hid hmem
      have Hinv := Lib.hid hinv
      have Hb1 := Lib.hid hb
      obtain ⟨d0, d1, d2, d3, d4, d5, d6, d7, d8, d9, d10, d11, d12⟩ := arrS_cells hmem.1
      have Hlen0 : Hid (l0.length = l.length) := by show _ = _; have h1 := hmem.rows; obtain ⟨_, _, e, -⟩ := h1; simp only [Value.slice.injEq] at e; exact e.2.1
      obtain ⟨M0, hM0⟩ : ∃ z, soMeas most (stAt wr sb 9) (stAt wr sb 10) = z := ⟨_, rfl⟩
      have HM0 := Lib.hid hM0
      have HMe : Hid (soMeas most pos st = M0) := by show _ = _; rw [← hM0, stAt_of d9, stAt_of d10]
      clear heq hmem hinv hb hM0 hp1 hp2
      have hBr : B ≤ wr.heap.size := Nat.le_trans hBs (Nat.le_of_lt Hm1.out.1.lt)
      by_cases hneg : pos < 0
      · have hRR : Hid (R = (2, l, pos, st)) := by show _ = _; rw [Hx1.out, soGo_step p n.ends ports most F l pos st hs2 hq1 HF1.out, if_pos hneg]
        go_wp2
        go_ret
        rw [hRR.out]
        exact ⟨rfl, Hm1.out, Hinv.out, Hb1.out⟩
      · obtain ⟨q, rfl⟩ := Int.eq_ofNat_of_zero_le (show 0 ≤ pos by omega)
        have a0 := have_cell d0
        have a7 := have_cell d7
        have a8 := have_cell d8
        have a9 := have_cell d9
        have a10 := have_cell d10
        have a11 := have_cell d11
        have hng : ((q : Int) < 0) = False := by simp
        clear d0 d1 d2 d3 d4 d5 d6 d7 d8 d10 d11 d12 hneg
        go_upto_region 8 with (fail)
        clear d9
        by_cases hlen : (q : Int) = ports.length
        · have hbe : ((q : Int) == (ports.length : Int)) = true := by simpa using hlen
          have hRR : Hid (R = (1, l, (q : Int), st)) := by show _ = _; rw [Hx1.out, soGo_step p n.ends ports most F l q st hs2 hq1 HF1.out, if_neg (by omega), if_pos hlen]
          clear hlen
          refine wp_region_flow 10 (Since wr) (by kernel_rfl) (by kernel_rfl) (by simp) (since_drew (since_refl _)) ?_
          simp only [List.take_succ_cons, List.take_zero, List.drop_succ_cons, List.drop_zero]
          refine flow_val (v := ?_) rfl ?_ ?_; rotate_left; (intro W hW; go_simp; with_reducible rfl)
          simp only [Act.put, List.setIfInBounds_toArray, List.set_cons_succ, List.set_cons_zero]
          refine flow_val (v := ?_) rfl ?_ ?_; rotate_left; (intro W hW; go_simp; with_reducible rfl)
          simp only [Act.put, List.setIfInBounds_toArray, List.set_cons_succ, List.set_cons_zero]
          refine flow_val (v := ?_) rfl ?_ ?_; rotate_left; (intro W hW; go_simp; with_reducible rfl)
          simp only [Act.put, List.setIfInBounds_toArray, List.set_cons_succ, List.set_cons_zero]
          refine flow_val (v := ?_) rfl ?_ ?_; rotate_left; (intro W hW; go_simp; with_reducible rfl)
          simp only [Act.put, List.setIfInBounds_toArray, List.set_cons_succ, List.set_cons_zero]
          refine flow_val (v := ?_) rfl ?_ ?_; rotate_left; (intro W hW; go_simp; with_reducible rfl)
          simp only [Act.put, List.setIfInBounds_toArray, List.set_cons_succ, List.set_cons_zero]
          refine flow_val (v := ?_) rfl ?_ ?_; rotate_left; (intro W hW; go_simp; with_reducible rfl)
          simp only [Act.put, List.setIfInBounds_toArray, List.set_cons_succ, List.set_cons_zero]
          refine flow_val (v := ?_) rfl ?_ ?_; rotate_left; (intro W hW; go_simp; with_reducible rfl)
          simp only [Act.put, List.setIfInBounds_toArray, List.set_cons_succ, List.set_cons_zero]
          refine flow_val (v := ?_) rfl ?_ ?_; rotate_left; (intro W hW; go_simp; with_reducible rfl)
          simp only [Act.put, List.setIfInBounds_toArray, List.set_cons_succ, List.set_cons_zero]
          refine flow_val (v := ?_) rfl ?_ ?_; rotate_left; (intro W hW; go_simp; with_reducible rfl)
          simp only [Act.put, List.setIfInBounds_toArray, List.set_cons_succ, List.set_cons_zero]
          refine flow_val (v := ?_) rfl ?_ ?_; rotate_left; (intro W hW; go_simp; with_reducible rfl)
          simp only [Act.put, List.setIfInBounds_toArray, List.set_cons_succ, List.set_cons_zero]
          intro W2 hW2
          have HW2 := Lib.hid hW2
          clear hW2 a0 a7 a8 a9 a10 a11
          go_wp2
          go_ret
          rw [hRR.out]
          exact ⟨rfl, Hm1.out.keepB HW2.out.below, Hinv.out, Hb1.out.trans (FrS.of HW2.out.below hBr)⟩
        · have hbe : ((q : Int) == (ports.length : Int)) = false := by simpa using hlen
          have hql : q < ports.length := by omega
          clear hlen
          refine wp_region_flow 10 (Since wr) (by kernel_rfl) (by kernel_rfl) (by simp) (since_drew (since_refl _)) ?_
          simp only [List.take_succ_cons, List.take_zero, List.drop_succ_cons, List.drop_zero]
          refine flow_val (v := ?_) rfl ?_ ?_; rotate_left; (intro W hW; go_simp; with_reducible rfl)
          simp only [Act.put, List.setIfInBounds_toArray, List.set_cons_succ, List.set_cons_zero]
          refine flow_val (v := ?_) rfl ?_ ?_; rotate_left; (intro W hW; go_simp; with_reducible rfl)
          simp only [Act.put, List.setIfInBounds_toArray, List.set_cons_succ, List.set_cons_zero]
          refine flow_val (v := ?_) rfl ?_ ?_; rotate_left; (intro W hW; go_simp; with_reducible rfl)
          simp only [Act.put, List.setIfInBounds_toArray, List.set_cons_succ, List.set_cons_zero]
          refine flow_val (v := ?_) rfl ?_ ?_; rotate_left; (intro W hW; go_simp; with_reducible rfl)
          simp only [Act.put, List.setIfInBounds_toArray, List.set_cons_succ, List.set_cons_zero]
          refine flow_val (v := ?_) rfl ?_ ?_; rotate_left; (intro W hW; go_simp; with_reducible rfl)
          simp only [Act.put, List.setIfInBounds_toArray, List.set_cons_succ, List.set_cons_zero]
          refine flow_val (v := ?_) rfl ?_ ?_; rotate_left; (intro W hW; go_simp; with_reducible rfl)
          simp only [Act.put, List.setIfInBounds_toArray, List.set_cons_succ, List.set_cons_zero]
          refine flow_val (v := ?_) rfl ?_ ?_; rotate_left; (intro W hW; go_simp; with_reducible rfl)
          simp only [Act.put, List.setIfInBounds_toArray, List.set_cons_succ, List.set_cons_zero]
          refine flow_val (v := ?_) rfl ?_ ?_; rotate_left; (intro W hW; go_simp; with_reducible rfl)
          simp only [Act.put, List.setIfInBounds_toArray, List.set_cons_succ, List.set_cons_zero]
          refine flow_val (v := ?_) rfl ?_ ?_; rotate_left; (intro W hW; go_simp; with_reducible rfl)
          simp only [Act.put, List.setIfInBounds_toArray, List.set_cons_succ, List.set_cons_zero]
          refine flow_val (v := ?_) rfl ?_ ?_; rotate_left; (intro W hW; go_simp; with_reducible rfl)
          simp only [Act.put, List.setIfInBounds_toArray, List.set_cons_succ, List.set_cons_zero]
          intro W2 hW2
          obtain ⟨e, he⟩ := getx ports q hql
          obtain ⟨v, i, es, rfl, hes, hie⟩ := Hpo.out q e he
          have hvl : v < l.length := by rw [Hinv.out.1.1]; exact lt_of_get hes
          obtain ⟨row, hrow⟩ := getx l v hvl
          have hre := Hinv.out.1.2 v es row hes hrow
          have hr6 := Hr6.out v es hes
          have hir : i < row.length := by omega
          have hrow6 : row.length ≤ 6 := by omega
          obtain ⟨x, hx⟩ := getx row i hir
          have hxb := Hinv.out.2 v row i x hrow hx
          have Hstep := Lib.hid (soGo_at p n.ends ports most F he hrow hx hs2 HF1.out)
          obtain ⟨gl, cl, gr, cr, e5, f1, f2, f3, f4, -⟩ := Hm1.out.label hrow hx
          injection e5 with ea eb' ec
          subst ea ec
          obtain ⟨TE1, hTE1⟩ := Hm1.out.2.2.2
          obtain ⟨A6', c6', e6, -, -, hA6⟩ := end_at hTE1
          obtain ⟨b6, o6, e7, t1, t2⟩ := hA6 q _ he
          injection e6 with ea6 eb6 ec6
          subst ec6
          rw [← ea6] at e7
          subst e7
          have hv0 : v < l0.length := by rw [Hlen0.out]; exact hvl
          have hgs : gr < sb := Hm1.out.2.2.1 gr f4
          have Hrow := Lib.hid hrow
          have Hx := Lib.hid hx
          have b1 := lift_cell (have_cell t1) hW2
          have b2 := lift_cell (have_cell t2) hW2
          have b0 := lift_cell a0 hW2
          have b7 := lift_cell a7 hW2
          have b8 := lift_cell a8 hW2
          have b9 := lift_cell a9 hW2
          have b10 := lift_cell a10 hW2
          have b11 := lift_cell a11 hW2
          have g1 := lift_cell (have_cell f1) hW2
          have g2 := lift_cell (have_cell f2) hW2
          have HW2 := Lib.hid hW2
          clear he hes hie hrow hx hre ea6 eb6 eb' hA6 hTE1 f1 f2 f3 t1 t2 hvl a0 a7 a8 a9 a10 a11 hW2 hq1 hq2
          go_upto_region 10 with (fail)
          refine wp_region_flow 24 (Since W2) (by kernel_rfl) (by kernel_rfl) (by simp) (since_drew (since_refl _)) ?_
          simp only [List.take_succ_cons, List.take_zero, List.drop_succ_cons, List.drop_zero]
          refine flow_val (v := ?_) rfl ?_ ?_; rotate_left; (intro W hW; go_simp; with_reducible rfl)
          simp only [Act.put, List.setIfInBounds_toArray, List.set_cons_succ, List.set_cons_zero]
          refine flow_val (v := ?_) rfl ?_ ?_; rotate_left; (intro W hW; go_simp; with_reducible rfl)
          simp only [Act.put, List.setIfInBounds_toArray, List.set_cons_succ, List.set_cons_zero]
          refine flow_val (v := ?_) rfl ?_ ?_; rotate_left; (intro W hW; go_simp; with_reducible rfl)
          simp only [Act.put, List.setIfInBounds_toArray, List.set_cons_succ, List.set_cons_zero]
          refine flow_val (v := ?_) rfl ?_ ?_; rotate_left; (intro W hW; go_simp; with_reducible rfl)
          simp only [Act.put, List.setIfInBounds_toArray, List.set_cons_succ, List.set_cons_zero]
          refine flow_val (v := ?_) rfl ?_ ?_; rotate_left; (intro W hW; go_simp; with_reducible rfl)
          simp only [Act.put, List.setIfInBounds_toArray, List.set_cons_succ, List.set_cons_zero]
          refine flow_val (v := ?_) rfl ?_ ?_; rotate_left; (intro W hW; go_simp; with_reducible rfl)
          simp only [Act.put, List.setIfInBounds_toArray, List.set_cons_succ, List.set_cons_zero]
          refine flow_val (v := ?_) rfl ?_ ?_; rotate_left; (intro W hW; go_simp; with_reducible rfl)
          simp only [Act.put, List.setIfInBounds_toArray, List.set_cons_succ, List.set_cons_zero]
          refine flow_val (v := ?_) rfl ?_ ?_; rotate_left; (intro W hW; go_simp; with_reducible rfl)
          simp only [Act.put, List.setIfInBounds_toArray, List.set_cons_succ, List.set_cons_zero]
          refine flow_val (v := ?_) rfl ?_ ?_; rotate_left; (intro W hW; go_simp; with_reducible rfl)
          simp only [Act.put, List.setIfInBounds_toArray, List.set_cons_succ, List.set_cons_zero]
          refine flow_val (v := ?_) rfl ?_ ?_; rotate_left; (intro W hW; go_simp; with_reducible rfl)
          simp only [Act.put, List.setIfInBounds_toArray, List.set_cons_succ, List.set_cons_zero]
          refine flow_val (v := ?_) rfl ?_ ?_; rotate_left; (intro W hW; go_simp; with_reducible rfl)
          simp only [Act.put, List.setIfInBounds_toArray, List.set_cons_succ, List.set_cons_zero]
          refine flow_val (v := ?_) rfl ?_ ?_; rotate_left; (intro W hW; go_simp; with_reducible rfl)
          simp only [Act.put, List.setIfInBounds_toArray, List.set_cons_succ, List.set_cons_zero]
          refine flow_val (v := ?_) rfl ?_ ?_; rotate_left; (intro W hW; go_simp; with_reducible rfl)
          simp only [Act.put, List.setIfInBounds_toArray, List.set_cons_succ, List.set_cons_zero]
          refine flow_val (v := ?_) rfl ?_ ?_; rotate_left; (intro W hW; go_simp; with_reducible rfl)
          simp only [Act.put, List.setIfInBounds_toArray, List.set_cons_succ, List.set_cons_zero]
          refine flow_val (v := ?_) rfl ?_ ?_; rotate_left; (intro W hW; go_simp; with_reducible rfl)
          simp only [Act.put, List.setIfInBounds_toArray, List.set_cons_succ, List.set_cons_zero]
          refine flow_val (v := ?_) rfl ?_ ?_; rotate_left; (intro W hW; go_simp; with_reducible rfl)
          simp only [Act.put, List.setIfInBounds_toArray, List.set_cons_succ, List.set_cons_zero]
          refine flow_val (v := ?_) rfl ?_ ?_; rotate_left; (intro W hW; go_simp; with_reducible rfl)
          simp only [Act.put, List.setIfInBounds_toArray, List.set_cons_succ, List.set_cons_zero]
          refine flow_val (v := ?_) rfl ?_ ?_; rotate_left; (intro W hW; go_simp; with_reducible rfl)
          simp only [Act.put, List.setIfInBounds_toArray, List.set_cons_succ, List.set_cons_zero]
          refine flow_val (v := ?_) rfl ?_ ?_; rotate_left; (intro W hW; go_simp; with_reducible rfl)
          simp only [Act.put, List.setIfInBounds_toArray, List.set_cons_succ, List.set_cons_zero]
          refine flow_val (v := ?_) rfl ?_ ?_; rotate_left; (intro W hW; go_simp; with_reducible rfl)
          simp only [Act.put, List.setIfInBounds_toArray, List.set_cons_succ, List.set_cons_zero]
          refine flow_val (v := ?_) rfl ?_ ?_; rotate_left; (intro W hW; go_simp; with_reducible rfl)
          simp only [Act.put, List.setIfInBounds_toArray, List.set_cons_succ, List.set_cons_zero]
          refine flow_val (v := ?_) rfl ?_ ?_; rotate_left; (intro W hW; go_simp; with_reducible rfl)
          simp only [Act.put, List.setIfInBounds_toArray, List.set_cons_succ, List.set_cons_zero]
          refine flow_val (v := ?_) rfl ?_ ?_; rotate_left; (intro W hW; go_simp; with_reducible rfl)
          simp only [Act.put, List.setIfInBounds_toArray, List.set_cons_succ, List.set_cons_zero]
          refine flow_val (v := ?_) rfl ?_ ?_; rotate_left; (intro W hW; go_simp; with_reducible rfl)
          simp only [Act.put, List.setIfInBounds_toArray, List.set_cons_succ, List.set_cons_zero]
          intro W3 hW3
          have j0 := lift_cell b0 hW3
          have j7 := lift_cell b7 hW3
          have j9 := lift_cell b9 hW3
          have j10 := lift_cell b10 hW3
          have j11 := lift_cell b11 hW3
          have h1 := lift_cell g1 hW3
          have h2 := lift_cell g2 hW3
          have HW3 := Lib.hid (HW2.out.after hW3)
          clear b0 b1 b2 b7 b8 b9 b10 b11 g1 g2 hW3
          go_upto_region 11 with (fail)
          by_cases hxe : x = p.labels - 1
          · have hbx : (x == p.labels - 1) = true := by simpa using hxe
            have Hxe := Lib.hid hxe
            clear hxe
            refine wp_region_flow 17 (Since W3) (by kernel_rfl) (by kernel_rfl) (by simp) (since_drew (since_refl _)) ?_
            simp only [List.take_succ_cons, List.take_zero, List.drop_succ_cons, List.drop_zero]
            refine flow_val (v := ?_) rfl ?_ ?_; rotate_left; (intro W hW; go_simp; with_reducible rfl)
            simp only [Act.put, List.setIfInBounds_toArray, List.set_cons_succ, List.set_cons_zero]
            refine flow_val (v := ?_) rfl ?_ ?_; rotate_left; (intro W hW; go_simp; with_reducible rfl)
            simp only [Act.put, List.setIfInBounds_toArray, List.set_cons_succ, List.set_cons_zero]
            refine flow_val (v := ?_) rfl ?_ ?_; rotate_left; (intro W hW; go_simp; with_reducible rfl)
            simp only [Act.put, List.setIfInBounds_toArray, List.set_cons_succ, List.set_cons_zero]
            refine flow_val (v := ?_) rfl ?_ ?_; rotate_left; (intro W hW; go_simp; with_reducible rfl)
            simp only [Act.put, List.setIfInBounds_toArray, List.set_cons_succ, List.set_cons_zero]
            refine flow_val (v := ?_) rfl ?_ ?_; rotate_left; (intro W hW; go_simp; with_reducible rfl)
            simp only [Act.put, List.setIfInBounds_toArray, List.set_cons_succ, List.set_cons_zero]
            refine flow_val (v := ?_) rfl ?_ ?_; rotate_left; (intro W hW; go_simp; with_reducible rfl)
            simp only [Act.put, List.setIfInBounds_toArray, List.set_cons_succ, List.set_cons_zero]
            refine flow_val (v := ?_) rfl ?_ ?_; rotate_left; (intro W hW; go_simp; with_reducible rfl)
            simp only [Act.put, List.setIfInBounds_toArray, List.set_cons_succ, List.set_cons_zero]
            refine flow_val (v := ?_) rfl ?_ ?_; rotate_left; (intro W hW; go_simp; with_reducible rfl)
            simp only [Act.put, List.setIfInBounds_toArray, List.set_cons_succ, List.set_cons_zero]
            refine flow_val (v := ?_) rfl ?_ ?_; rotate_left; (intro W hW; go_simp; with_reducible rfl)
            simp only [Act.put, List.setIfInBounds_toArray, List.set_cons_succ, List.set_cons_zero]
            refine flow_val (v := ?_) rfl ?_ ?_; rotate_left; (intro W hW; go_simp; with_reducible rfl)
            simp only [Act.put, List.setIfInBounds_toArray, List.set_cons_succ, List.set_cons_zero]
            refine flow_val (v := ?_) rfl ?_ ?_; rotate_left; (intro W hW; go_simp; with_reducible rfl)
            simp only [Act.put, List.setIfInBounds_toArray, List.set_cons_succ, List.set_cons_zero]
            refine flow_val (v := ?_) rfl ?_ ?_; rotate_left; (intro W hW; go_simp; with_reducible rfl)
            simp only [Act.put, List.setIfInBounds_toArray, List.set_cons_succ, List.set_cons_zero]
            refine flow_val (v := ?_) rfl ?_ ?_; rotate_left; (intro W hW; go_simp; with_reducible rfl)
            simp only [Act.put, List.setIfInBounds_toArray, List.set_cons_succ, List.set_cons_zero]
            refine flow_val (v := ?_) rfl ?_ ?_; rotate_left; (intro W hW; go_simp; with_reducible rfl)
            simp only [Act.put, List.setIfInBounds_toArray, List.set_cons_succ, List.set_cons_zero]
            refine flow_val (v := ?_) rfl ?_ ?_; rotate_left; (intro W hW; go_simp; with_reducible rfl)
            simp only [Act.put, List.setIfInBounds_toArray, List.set_cons_succ, List.set_cons_zero]
            refine flow_val (v := ?_) rfl ?_ ?_; rotate_left; (intro W hW; go_simp; with_reducible rfl)
            simp only [Act.put, List.setIfInBounds_toArray, List.set_cons_succ, List.set_cons_zero]
            refine flow_val (v := ?_) rfl ?_ ?_; rotate_left; (intro W hW; go_simp; with_reducible rfl)
            simp only [Act.put, List.setIfInBounds_toArray, List.set_cons_succ, List.set_cons_zero]
            intro W4 hW4
            have HW4 := Lib.hid (HW3.out.after hW4)
            have z7 := j7 W4 hW4
            have z1 := h1 W4 hW4
            obtain ⟨y1, y2, y3, y4⟩ := (Hm1.out.keepB HW4.out.below).labelAt Hrow.out Hx.out (h1 W4 hW4)
            obtain ⟨n1, n2, n3⟩ := y4 (-1)
            obtain ⟨m1, m2, m3⟩ := n1.field hBs 9 (.int .i64 ((q : Int) - 1))
            have z9 := (n1.1.cell 9 (.int .i64 (q : Int)) rfl).1
            have zf := (n1.1.cell 9 (.int .i64 (q : Int)) rfl).2
            have HN1 : Hid (SolM _ sb (arrS p (.slice A1 p.nodes.length c1) (.slice A2 p.edges.length c2) (.slice A3 n.ends.length c3) (.slice A4 n.ids.length c4) (.slice A7 n.inputs.length c7) (.slice (some ⟨gl, 0, none⟩) l0.length c5) (.slice (some ⟨b6, o6, none⟩) ports.length c6) ((q : Int) - 1) st most false) _ ports _ _ SL B) := m1
            have HN2 := Lib.hid (Hb1.out.trans ((FrS.of HW4.out.below hBr).trans ((FrS.mk n2 n3).trans (FrS.mk m2 m3))))
            obtain ⟨W5, hW5⟩ : ∃ W5, W5 = W4.setCell ⟨gr, i, none⟩ (.int .i64 (-1)) := ⟨_, rfl⟩
            rw [← hW5] at HN1 HN2 z9 zf
            have HW5 := Lib.hid hW5
            clear y3 y4 n1 n2 n3 m1 m2 m3 hW4 j0 j7 j9 j10 j11 h1 h2 hbx hW5
            have Hn2 : Hid (R = soGo p n.ends ports most F (putB l ((v : Int), (i : Int)) (-1)) ((q : Int) - 1) st) := by show _ = _; rw [Hx1.out, Hstep.out, if_pos Hxe.out]
            have wq : IntKind.i64.wrap ((q : Int) - 1) = (q : Int) - 1 := wr64 _ (by omega) (by omega)
            have HFq : Hid (soMeas most ((q : Int) - 1) st < M0 ∧ soMeas most ((q : Int) - 1) st ≤ F) := by have := HMe.out; have := HF1.out; unfold soMeas at *; exact ⟨by omega, by omega⟩
            go_upto_region 13 with (fail)
            rw [← HW5.out]
            clear z7 z1 y1 y2
            go_wp2
            go_roundw
            case rel => exact ⟨_, (q : Int) - 1, st, by omega, by omega, hs1, hs2, ⟨Hn2.out, HFq.out.2⟩, HN1.out, ⟨putB_shape Hinv.out.1 Hrow.out hir, putB_inr Hinv.out.2 Hrow.out hir ⟨by omega, by omega⟩⟩, HN2.out⟩
            case measure =>
              have hc := arrS_cells HN1.out.1
              rw [HM0.out, stAt_of hc.2.2.2.2.2.2.2.2.2.1, stAt_of hc.2.2.2.2.2.2.2.2.2.2.1]
              exact HFq.out.1
          · have hbx : (x == p.labels - 1) = false := by simpa using hxe
            have Hxe := Lib.hid hxe
            clear hxe
            refine wp_region_flow 17 (Since W3) (by kernel_rfl) (by kernel_rfl) (by simp) (since_drew (since_refl _)) ?_
            simp only [List.take_succ_cons, List.take_zero, List.drop_succ_cons, List.drop_zero]
            refine flow_val (v := ?_) rfl ?_ ?_; rotate_left; (intro W hW; go_simp; with_reducible rfl)
            simp only [Act.put, List.setIfInBounds_toArray, List.set_cons_succ, List.set_cons_zero]
            refine flow_val (v := ?_) rfl ?_ ?_; rotate_left; (intro W hW; go_simp; with_reducible rfl)
            simp only [Act.put, List.setIfInBounds_toArray, List.set_cons_succ, List.set_cons_zero]
            refine flow_val (v := ?_) rfl ?_ ?_; rotate_left; (intro W hW; go_simp; with_reducible rfl)
            simp only [Act.put, List.setIfInBounds_toArray, List.set_cons_succ, List.set_cons_zero]
            refine flow_val (v := ?_) rfl ?_ ?_; rotate_left; (intro W hW; go_simp; with_reducible rfl)
            simp only [Act.put, List.setIfInBounds_toArray, List.set_cons_succ, List.set_cons_zero]
            refine flow_val (v := ?_) rfl ?_ ?_; rotate_left; (intro W hW; go_simp; with_reducible rfl)
            simp only [Act.put, List.setIfInBounds_toArray, List.set_cons_succ, List.set_cons_zero]
            refine flow_val (v := ?_) rfl ?_ ?_; rotate_left; (intro W hW; go_simp; with_reducible rfl)
            simp only [Act.put, List.setIfInBounds_toArray, List.set_cons_succ, List.set_cons_zero]
            refine flow_val (v := ?_) rfl ?_ ?_; rotate_left; (intro W hW; go_simp; with_reducible rfl)
            simp only [Act.put, List.setIfInBounds_toArray, List.set_cons_succ, List.set_cons_zero]
            refine flow_val (v := ?_) rfl ?_ ?_; rotate_left; (intro W hW; go_simp; with_reducible rfl)
            simp only [Act.put, List.setIfInBounds_toArray, List.set_cons_succ, List.set_cons_zero]
            refine flow_val (v := ?_) rfl ?_ ?_; rotate_left; (intro W hW; go_simp; with_reducible rfl)
            simp only [Act.put, List.setIfInBounds_toArray, List.set_cons_succ, List.set_cons_zero]
            refine flow_val (v := ?_) rfl ?_ ?_; rotate_left; (intro W hW; go_simp; with_reducible rfl)
            simp only [Act.put, List.setIfInBounds_toArray, List.set_cons_succ, List.set_cons_zero]
            refine flow_val (v := ?_) rfl ?_ ?_; rotate_left; (intro W hW; go_simp; with_reducible rfl)
            simp only [Act.put, List.setIfInBounds_toArray, List.set_cons_succ, List.set_cons_zero]
            refine flow_val (v := ?_) rfl ?_ ?_; rotate_left; (intro W hW; go_simp; with_reducible rfl)
            simp only [Act.put, List.setIfInBounds_toArray, List.set_cons_succ, List.set_cons_zero]
            refine flow_val (v := ?_) rfl ?_ ?_; rotate_left; (intro W hW; go_simp; with_reducible rfl)
            simp only [Act.put, List.setIfInBounds_toArray, List.set_cons_succ, List.set_cons_zero]
            refine flow_val (v := ?_) rfl ?_ ?_; rotate_left; (intro W hW; go_simp; with_reducible rfl)
            simp only [Act.put, List.setIfInBounds_toArray, List.set_cons_succ, List.set_cons_zero]
            refine flow_val (v := ?_) rfl ?_ ?_; rotate_left; (intro W hW; go_simp; with_reducible rfl)
            simp only [Act.put, List.setIfInBounds_toArray, List.set_cons_succ, List.set_cons_zero]
            refine flow_val (v := ?_) rfl ?_ ?_; rotate_left; (intro W hW; go_simp; with_reducible rfl)
            simp only [Act.put, List.setIfInBounds_toArray, List.set_cons_succ, List.set_cons_zero]
            refine flow_val (v := ?_) rfl ?_ ?_; rotate_left; (intro W hW; go_simp; with_reducible rfl)
            simp only [Act.put, List.setIfInBounds_toArray, List.set_cons_succ, List.set_cons_zero]
            intro W4 hW4
            have k7 := lift_cell j7 hW4
            have k1 := lift_cell h1 hW4
            have k10 := lift_cell j10 hW4
            have k11 := lift_cell j11 hW4
            have HW4 := Lib.hid (HW3.out.after hW4)
            clear j0 j7 j9 j10 j11 h1 h2 hW4 hbx
            go_upto_region 14 with (fail)
            by_cases hms : st = most
            · have hbm : (st == most) = true := by simpa using hms
              have hRR : Hid (R = (3, l, (q : Int), st)) := by show _ = _; rw [Hx1.out, Hstep.out, if_neg Hxe.out, if_pos hms]
              clear hms
              refine wp_region_flow 9 (Since W4) (by kernel_rfl) (by kernel_rfl) (by simp) (since_drew (since_refl _)) ?_
              simp only [List.take_succ_cons, List.take_zero, List.drop_succ_cons, List.drop_zero]
              refine flow_val (v := ?_) rfl ?_ ?_; rotate_left; (intro W hW; go_simp; with_reducible rfl)
              simp only [Act.put, List.setIfInBounds_toArray, List.set_cons_succ, List.set_cons_zero]
              refine flow_val (v := ?_) rfl ?_ ?_; rotate_left; (intro W hW; go_simp; with_reducible rfl)
              simp only [Act.put, List.setIfInBounds_toArray, List.set_cons_succ, List.set_cons_zero]
              refine flow_val (v := ?_) rfl ?_ ?_; rotate_left; (intro W hW; go_simp; with_reducible rfl)
              simp only [Act.put, List.setIfInBounds_toArray, List.set_cons_succ, List.set_cons_zero]
              refine flow_val (v := ?_) rfl ?_ ?_; rotate_left; (intro W hW; go_simp; with_reducible rfl)
              simp only [Act.put, List.setIfInBounds_toArray, List.set_cons_succ, List.set_cons_zero]
              refine flow_val (v := ?_) rfl ?_ ?_; rotate_left; (intro W hW; go_simp; with_reducible rfl)
              simp only [Act.put, List.setIfInBounds_toArray, List.set_cons_succ, List.set_cons_zero]
              refine flow_val (v := ?_) rfl ?_ ?_; rotate_left; (intro W hW; go_simp; with_reducible rfl)
              simp only [Act.put, List.setIfInBounds_toArray, List.set_cons_succ, List.set_cons_zero]
              refine flow_val (v := ?_) rfl ?_ ?_; rotate_left; (intro W hW; go_simp; with_reducible rfl)
              simp only [Act.put, List.setIfInBounds_toArray, List.set_cons_succ, List.set_cons_zero]
              refine flow_val (v := ?_) rfl ?_ ?_; rotate_left; (intro W hW; go_simp; with_reducible rfl)
              simp only [Act.put, List.setIfInBounds_toArray, List.set_cons_succ, List.set_cons_zero]
              refine flow_val (v := ?_) rfl ?_ ?_; rotate_left; (intro W hW; go_simp; with_reducible rfl)
              simp only [Act.put, List.setIfInBounds_toArray, List.set_cons_succ, List.set_cons_zero]
              intro W5 hW5
              have HW5 := Lib.hid (HW4.out.after hW5)
              clear hW5 k7 k1 k10 k11
              go_wp2
              go_ret
              rw [hRR.out]
              exact ⟨rfl, Hm1.out.keepB HW5.out.below, Hinv.out, Hb1.out.trans (FrS.of HW5.out.below hBr)⟩
            · have hbm : (st == most) = false := by simpa using hms
              have Hms := Lib.hid hms
              clear hms
              refine wp_region_flow 9 (Since W4) (by kernel_rfl) (by kernel_rfl) (by simp) (since_drew (since_refl _)) ?_
              simp only [List.take_succ_cons, List.take_zero, List.drop_succ_cons, List.drop_zero]
              refine flow_val (v := ?_) rfl ?_ ?_; rotate_left; (intro W hW; go_simp; with_reducible rfl)
              simp only [Act.put, List.setIfInBounds_toArray, List.set_cons_succ, List.set_cons_zero]
              refine flow_val (v := ?_) rfl ?_ ?_; rotate_left; (intro W hW; go_simp; with_reducible rfl)
              simp only [Act.put, List.setIfInBounds_toArray, List.set_cons_succ, List.set_cons_zero]
              refine flow_val (v := ?_) rfl ?_ ?_; rotate_left; (intro W hW; go_simp; with_reducible rfl)
              simp only [Act.put, List.setIfInBounds_toArray, List.set_cons_succ, List.set_cons_zero]
              refine flow_val (v := ?_) rfl ?_ ?_; rotate_left; (intro W hW; go_simp; with_reducible rfl)
              simp only [Act.put, List.setIfInBounds_toArray, List.set_cons_succ, List.set_cons_zero]
              refine flow_val (v := ?_) rfl ?_ ?_; rotate_left; (intro W hW; go_simp; with_reducible rfl)
              simp only [Act.put, List.setIfInBounds_toArray, List.set_cons_succ, List.set_cons_zero]
              refine flow_val (v := ?_) rfl ?_ ?_; rotate_left; (intro W hW; go_simp; with_reducible rfl)
              simp only [Act.put, List.setIfInBounds_toArray, List.set_cons_succ, List.set_cons_zero]
              refine flow_val (v := ?_) rfl ?_ ?_; rotate_left; (intro W hW; go_simp; with_reducible rfl)
              simp only [Act.put, List.setIfInBounds_toArray, List.set_cons_succ, List.set_cons_zero]
              refine flow_val (v := ?_) rfl ?_ ?_; rotate_left; (intro W hW; go_simp; with_reducible rfl)
              simp only [Act.put, List.setIfInBounds_toArray, List.set_cons_succ, List.set_cons_zero]
              refine flow_val (v := ?_) rfl ?_ ?_; rotate_left; (intro W hW; go_simp; with_reducible rfl)
              simp only [Act.put, List.setIfInBounds_toArray, List.set_cons_succ, List.set_cons_zero]
              intro W5 hW5
              have HW5 := Lib.hid (HW4.out.after hW5)
              have hS5 := Hm1.out.keepB HW5.out.below
              obtain ⟨m1, m2, m3⟩ := hS5.field hBs 10 (.int .i64 (st + 1))
              have z10 := (hS5.1.cell 10 (.int .i64 st) rfl).1
              have zf10 := (hS5.1.cell 10 (.int .i64 st) rfl).2
              obtain ⟨W6, hW6⟩ : ∃ W6, W6 = W5.setCell ⟨sb, 10, none⟩ (.int .i64 (st + 1)) := ⟨_, rfl⟩
              rw [← hW6] at m1 m2 m3
              have hgl5 := k1 W5 hW5
              obtain ⟨gg, hgg⟩ : ∃ g, g = gl := ⟨_, rfl⟩
              have hgl6 : W6.cell? ⟨gl, v, none⟩ = some (.slice (some ⟨gr, 0, none⟩) row.length cr) := by
                rw [hW6]
                have hne : gl ≠ sb := by
                  have h1 := hS5.2.1
                  have h2 := hS5.2.2.1
                  intro e
                  obtain ⟨vs', Ss, r1, -, -, r4, -⟩ := h1
                  have := h2 gl (by rw [r4]; simp [Value.ownBlock])
                  omega
                exact (World.cell?_of_block (Below.heap_setCell _ _ _ gl hne)).trans hgl5
              obtain ⟨y1, y2, y3, y4⟩ := m1.labelAt Hrow.out Hx.out hgl6
              obtain ⟨n1, n2, n3⟩ := y4 (x + 1)
              have z7 := (m1.1.cell 7 (.slice (some ⟨gl, 0, none⟩) l0.length c5) rfl).1
              obtain ⟨W7, hW7⟩ : ∃ W7, W7 = W6.setCell ⟨gr, i, none⟩ (.int .i64 (x + 1)) := ⟨_, rfl⟩
              rw [← hW7] at n1 n2 n3
              have wx : IntKind.i64.wrap (x + 1) = x + 1 := wr64 _ (by omega) (by omega)
              have ws : IntKind.i64.wrap (st + 1) = st + 1 := wr64 _ (by omega) (by omega)
              obtain ⟨lp, hlp⟩ : ∃ lp, lp = putB l ((v : Int), (i : Int)) (x + 1) := ⟨_, rfl⟩
              rw [← hlp] at n1 Hstep
              have HM1 : Hid (SolM W7 sb (arrS p (.slice A1 p.nodes.length c1) (.slice A2 p.edges.length c2) (.slice A3 n.ends.length c3) (.slice A4 n.ids.length c4) (.slice A7 n.inputs.length c7) (.slice (some ⟨gl, 0, none⟩) l0.length c5) (.slice (some ⟨b6, o6, none⟩) ports.length c6) (q : Int) (st + 1) most false) lp ports (.slice (some ⟨gl, 0, none⟩) l0.length c5) (.slice (some ⟨b6, o6, none⟩) ports.length c6) SL B) := n1
              have HB7 := Lib.hid (Hb1.out.trans ((FrS.of HW5.out.below hBr).trans ((FrS.mk m2 m3).trans (FrS.mk n2 n3))))
              have Hrp : Hid (lp[v]? = some (row.set i (x + 1))) := by show _ = _; rw [hlp]; exact (putB_get Hrow.out hir).1
              have HIp : Hid (Shape n.ends lp ∧ InR (p.labels - 1) lp) := by rw [hlp]; exact ⟨putB_shape Hinv.out.1 Hrow.out hir, putB_inr Hinv.out.2 Hrow.out hir ⟨by omega, by have := Hxe.out; omega⟩⟩
              obtain ⟨rp, hrp⟩ : ∃ rp, rp = row.set i (x + 1) := ⟨_, rfl⟩
              have hrpl : rp.length = row.length := by rw [hrp, List.length_set]
              rw [← hrp] at Hrp Hstep
              have hirp : i < rp.length := by omega
              have hrp6 : rp.length ≤ 1000000 := by omega
              have HW6 := Lib.hid hW6
              have HW7 := Lib.hid hW7
              clear hlp hrp n1 n2 n3 m1 m2 m3 y3 y4 hW6 hW7 hS5 hgl5 hW5 k7 k1 k10 k11 hgg gg hbm hrpl
              go_upto_region 17 with (fail)
              rw [← HW6.out]
              clear z10 zf10
              go_upto_region 18 with (fail)
              rw [← HW7.out]
              clear z7 y1 y2 hgl6
              obtain ⟨d0, d1, d2, d3, d4, d5, d6, d7, -⟩ := arrS_cells HM1.out.1
              have a0 := have_cell d0
              have a1 := have_cell d1
              have a2 := have_cell d2
              have a3 := have_cell d3
              have a4 := have_cell d4
              have a5 := have_cell d5
              have a6 := have_cell d6
              have a7 := have_cell d7
              have hB7 : B ≤ W7.heap.size := Nat.le_trans hBs (Nat.le_of_lt HM1.out.1.lt)
              obtain ⟨b8, o8, u8, hA8, hc8, hu8⟩ := HM1.out.rowAt Hrp.out
              injection hA8 with hA8
              injection hA8 with hA8a hA8b
              subst hA8a hA8b
              obtain ⟨A9, z9', rfl, hz91, hz92, -⟩ := id hu8
              rw [Nat.zero_add] at hc8
              have a8 := have_cell hc8
              have Hrow' : Hid (∀ X, Since W7 X → IntS X (.slice A9 rp.length z9') rp) := fun X hX => hu8.keep hX.below
              clear d0 d1 d2 d3 d4 d5 d6 d7 hc8 hu8
              refine wp_region_flow 29 (Since W7) (by kernel_rfl) (by kernel_rfl) (by simp) (since_drew (since_refl _)) ?_
              simp only [List.take_succ_cons, List.take_zero, List.drop_succ_cons, List.drop_zero]
              refine flow_val (v := ?_) rfl ?_ ?_; rotate_left; (intro W hW; go_simp; with_reducible rfl)
              simp only [Act.put, List.setIfInBounds_toArray, List.set_cons_succ, List.set_cons_zero]
              refine flow_val (v := ?_) rfl ?_ ?_; rotate_left; (intro W hW; go_simp; with_reducible rfl)
              simp only [Act.put, List.setIfInBounds_toArray, List.set_cons_succ, List.set_cons_zero]
              refine flow_val (v := ?_) rfl ?_ ?_; rotate_left; (intro W hW; go_simp; with_reducible rfl)
              simp only [Act.put, List.setIfInBounds_toArray, List.set_cons_succ, List.set_cons_zero]
              refine flow_val (v := ?_) rfl ?_ ?_; rotate_left; (intro W hW; go_simp; with_reducible rfl)
              simp only [Act.put, List.setIfInBounds_toArray, List.set_cons_succ, List.set_cons_zero]
              refine flow_val (v := ?_) rfl ?_ ?_; rotate_left; (intro W hW; go_simp; with_reducible rfl)
              simp only [Act.put, List.setIfInBounds_toArray, List.set_cons_succ, List.set_cons_zero]
              refine flow_val (v := ?_) rfl ?_ ?_; rotate_left; (intro W hW; go_simp; with_reducible rfl)
              simp only [Act.put, List.setIfInBounds_toArray, List.set_cons_succ, List.set_cons_zero]
              refine flow_val (v := ?_) rfl ?_ ?_; rotate_left; (intro W hW; go_simp; with_reducible rfl)
              simp only [Act.put, List.setIfInBounds_toArray, List.set_cons_succ, List.set_cons_zero]
              refine flow_val (v := ?_) rfl ?_ ?_; rotate_left; (intro W hW; go_simp; with_reducible rfl)
              simp only [Act.put, List.setIfInBounds_toArray, List.set_cons_succ, List.set_cons_zero]
              refine flow_val (v := ?_) rfl ?_ ?_; rotate_left; (intro W hW; go_simp; with_reducible rfl)
              simp only [Act.put, List.setIfInBounds_toArray, List.set_cons_succ, List.set_cons_zero]
              refine flow_val (v := ?_) rfl ?_ ?_; rotate_left; (intro W hW; go_simp; with_reducible rfl)
              simp only [Act.put, List.setIfInBounds_toArray, List.set_cons_succ, List.set_cons_zero]
              refine flow_val (v := ?_) rfl ?_ ?_; rotate_left; (intro W hW; go_simp; with_reducible rfl)
              simp only [Act.put, List.setIfInBounds_toArray, List.set_cons_succ, List.set_cons_zero]
              refine flow_op ?_ rfl ?_ ?_; rotate_left; (intro W hW; unfold Gives; go_simp; (with_reducible refine (soNode_any _ _ _ p rp W (HPp.out W (HB7.out.trans (FrS.of hW.below hB7)).b) (Hrow'.out W hW) hrp6).mono ?_); rintro e W' ⟨rfl, hb3⟩; first | (refine ⟨?_, Since.trans hW hb3⟩; with_reducible rfl) | (subst hb3; refine ⟨?_, hW⟩; with_reducible rfl))
              simp only [Act.put, List.setIfInBounds_toArray, List.set_cons_succ, List.set_cons_zero]
              refine flow_val (v := ?_) rfl ?_ ?_; rotate_left; (intro W hW; go_simp; with_reducible rfl)
              simp only [Act.put, List.setIfInBounds_toArray, List.set_cons_succ, List.set_cons_zero]
              refine flow_gval (v := ?_) rfl rfl ?_ ?_; rotate_left; (intro hb; intro W hW; go_simp; with_reducible rfl)
              simp only [Act.put, List.setIfInBounds_toArray, List.set_cons_succ, List.set_cons_zero]
              refine flow_gval (v := ?_) rfl rfl ?_ ?_; rotate_left; (intro hb; intro W hW; go_simp; with_reducible rfl)
              simp only [Act.put, List.setIfInBounds_toArray, List.set_cons_succ, List.set_cons_zero]
              refine flow_gval (v := ?_) rfl rfl ?_ ?_; rotate_left; (intro hb; intro W hW; go_simp; with_reducible rfl)
              simp only [Act.put, List.setIfInBounds_toArray, List.set_cons_succ, List.set_cons_zero]
              refine flow_gval (v := ?_) rfl rfl ?_ ?_; rotate_left; (intro hb; intro W hW; go_simp; with_reducible rfl)
              simp only [Act.put, List.setIfInBounds_toArray, List.set_cons_succ, List.set_cons_zero]
              refine flow_gval (v := ?_) rfl rfl ?_ ?_; rotate_left; (intro hb; intro W hW; go_simp; with_reducible rfl)
              simp only [Act.put, List.setIfInBounds_toArray, List.set_cons_succ, List.set_cons_zero]
              refine flow_gval (v := ?_) rfl rfl ?_ ?_; rotate_left; (intro hb; intro W hW; go_simp; with_reducible rfl)
              simp only [Act.put, List.setIfInBounds_toArray, List.set_cons_succ, List.set_cons_zero]
              refine flow_gval (v := ?_) rfl rfl ?_ ?_; rotate_left; (intro hb; intro W hW; go_simp; with_reducible rfl)
              simp only [Act.put, List.setIfInBounds_toArray, List.set_cons_succ, List.set_cons_zero]
              refine flow_gval (v := ?_) rfl rfl ?_ ?_; rotate_left; (intro hb; intro W hW; go_simp; with_reducible rfl)
              simp only [Act.put, List.setIfInBounds_toArray, List.set_cons_succ, List.set_cons_zero]
              refine flow_gval (v := ?_) rfl rfl ?_ ?_; rotate_left; (intro hb; intro W hW; go_simp; with_reducible rfl)
              simp only [Act.put, List.setIfInBounds_toArray, List.set_cons_succ, List.set_cons_zero]
              refine flow_gval (v := ?_) rfl rfl ?_ ?_; rotate_left; (intro hb; intro W hW; go_simp; with_reducible rfl)
              simp only [Act.put, List.setIfInBounds_toArray, List.set_cons_succ, List.set_cons_zero]
              refine flow_gval (v := ?_) rfl rfl ?_ ?_; rotate_left; (intro hb; intro W hW; go_simp; with_reducible rfl)
              simp only [Act.put, List.setIfInBounds_toArray, List.set_cons_succ, List.set_cons_zero]
              refine flow_gval (v := ?_) rfl rfl ?_ ?_; rotate_left; (intro hb; intro W hW; go_simp; with_reducible rfl)
              simp only [Act.put, List.setIfInBounds_toArray, List.set_cons_succ, List.set_cons_zero]
              refine flow_gval (v := ?_) rfl rfl ?_ ?_; rotate_left; (intro hb; intro W hW; go_simp; with_reducible rfl)
              simp only [Act.put, List.setIfInBounds_toArray, List.set_cons_succ, List.set_cons_zero]
              refine flow_gval (v := ?_) rfl rfl ?_ ?_; rotate_left; (intro hb; intro W hW; go_simp; with_reducible rfl)
              simp only [Act.put, List.setIfInBounds_toArray, List.set_cons_succ, List.set_cons_zero]
              refine flow_gop (v := ?_) rfl rfl ?_ ?_; rotate_left; (intro hb; intro W hW; unfold Gives; go_simp; (with_reducible refine (soPort_any _ _ _ _ _ _ p n lp v i rp W (HPp.out W (HB7.out.trans (FrS.of hW.below hB7)).b) (HNn.out W (HB7.out.trans (FrS.of hW.below hB7)).b) (HM1.out.keepB hW.below).rows hn HIp.out.1 Hst.out hel Hrp.out hirp).mono ?_); rintro e W' ⟨rfl, hb3⟩; first | (refine ⟨?_, Since.trans hW hb3⟩; with_reducible rfl) | (subst hb3; refine ⟨?_, hW⟩; with_reducible rfl))
              simp only [Act.put, List.setIfInBounds_toArray, List.set_cons_succ, List.set_cons_zero]
              first | refine flow_and rfl rfl ?_ | (refine flow_val (v := ?_) rfl ?_ ?_; rotate_left; (intro W hW; go_simp; with_reducible rfl))
              simp only [Act.put, List.setIfInBounds_toArray, List.set_cons_succ, List.set_cons_zero]
              intro W8 hW8
              have HS8 := Lib.hid (HM1.out.keepB hW8.below)
              have HB8 := Lib.hid (HB7.out.trans (FrS.of hW8.below hB7))
              clear a0 a1 a2 a3 a4 a5 a6 a7 a8 hW8
              have HFq : Hid ((soMeas most (q : Int) (st + 1) < M0 ∧ soMeas most (q : Int) (st + 1) ≤ F) ∧ (soMeas most ((q : Int) + 1) (st + 1) < M0 ∧ soMeas most ((q : Int) + 1) (st + 1) ≤ F)) := by have := HMe.out; have := HF1.out; unfold soMeas at *; exact ⟨⟨by omega, by omega⟩, ⟨by omega, by omega⟩⟩
              cases hg : (nodeB p rp && portB p n.ends lp ((v : Int), (i : Int)))
              · have Hn2 : Hid (R = soGo p n.ends ports most F lp q (st + 1)) := by show _ = _; rw [Hx1.out, Hstep.out, if_neg Hxe.out, if_neg Hms.out, if_neg (by rw [hg]; simp)]
                go_wp2
                go_roundw
                case rel => exact ⟨lp, q, st + 1, by omega, by omega, by omega, by have := Hms.out; omega, ⟨Hn2.out, HFq.out.1.2⟩, HS8.out, HIp.out, HB8.out⟩
                case measure =>
                  have hc := arrS_cells HS8.out.1
                  rw [HM0.out, stAt_of hc.2.2.2.2.2.2.2.2.2.1, stAt_of hc.2.2.2.2.2.2.2.2.2.2.1]
                  exact HFq.out.1.1
              · have Hn2 : Hid (R = soGo p n.ends ports most F lp ((q : Int) + 1) (st + 1)) := by show _ = _; rw [Hx1.out, Hstep.out, if_neg Hxe.out, if_neg Hms.out, if_pos hg]
                have wq : IntKind.i64.wrap ((q : Int) + 1) = (q : Int) + 1 := wr64 _ (by omega) (by omega)
                obtain ⟨m1, m2, m3⟩ := HS8.out.field hBs 9 (.int .i64 ((q : Int) + 1))
                have z9 := (HS8.out.1.cell 9 (.int .i64 (q : Int)) rfl).1
                have zf := (HS8.out.1.cell 9 (.int .i64 (q : Int)) rfl).2
                have HN1 : Hid (SolM (W8.setCell ⟨sb, 9, none⟩ (.int .i64 ((q : Int) + 1))) sb (arrS p (.slice A1 p.nodes.length c1) (.slice A2 p.edges.length c2) (.slice A3 n.ends.length c3) (.slice A4 n.ids.length c4) (.slice A7 n.inputs.length c7) (.slice (some ⟨gl, 0, none⟩) l0.length c5) (.slice (some ⟨b6, o6, none⟩) ports.length c6) ((q : Int) + 1) (st + 1) most false) lp ports (.slice (some ⟨gl, 0, none⟩) l0.length c5) (.slice (some ⟨b6, o6, none⟩) ports.length c6) SL B) := m1
                have HN2 := Lib.hid (HB8.out.trans (FrS.mk m2 m3))
                clear m1 m2 m3
                go_wp2
                go_roundw
                case rel => exact ⟨lp, (q : Int) + 1, st + 1, by omega, by omega, by omega, by have := Hms.out; omega, ⟨Hn2.out, HFq.out.2.2⟩, HN1.out, HIp.out, HN2.out⟩
                case measure =>
                  have hc := arrS_cells HN1.out.1
                  rw [HM0.out, stAt_of hc.2.2.2.2.2.2.2.2.2.1, stAt_of hc.2.2.2.2.2.2.2.2.2.2.1]
                  exact HFq.out.2.1
end Go.Proofs.YtomnaabadohecaaGreat
namespace Go.Proofs.YtomnaabadohecaaGreat
open Go.RowKit
/-! the program's search -/
def soR {σ : Type} (nx : σ → List (List Int) → Bool × σ) (p : Prob) (ends : List (List (Int × Int))) (ports : List (Int × Int)) (most : Int) (s : σ) (l : List (List Int)) : σ × SoR :=
  if holdsB p ends l = true then soAll nx p ends ports most (soMeas most 0 0) s l 0 0 else (s, 2, l, 0, 0)
