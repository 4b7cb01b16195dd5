/- Parts of the proof: walks of functions and plain laws. -/
import Derived.Test.YtomnaabadohecaaGreatP5
import Derived.Test.YtomnaabadohecaaGreatP4
import Derived.Test.YtomnaabadohecaaGreatP7
import Derived.Test.YtomnaabadohecaaGreatP9
import Derived.Test.YtomnaabadohecaaGreatP18
import Derived.Test.YtomnaabadohecaaGreatP17
namespace Go.Proofs.YtomnaabadohecaaGreat
open Go.RowKit
set_option maxRecDepth 100000 in
set_option maxHeartbeats 16000000 in
theorem fnExactFirstSolutions_walk (w : World) (vp0 vp1 : Value) (p : Prob) (hp0 : PrIn w vp0 vp1 p) (_ : Pr64 p) (vn0 vn1 vn2 : Value) (n : Net) (hn0 : NetIn w vn0 vn1 vn2 n) (_ : Net64 n) (a2 : Int) (ba2 : -9223372036854775808 ≤ a2 ∧ a2 ≤ 9223372036854775807) :
    Calls Tryz.prog 8 #[.agg #[.int .i64 p.labels, .int .i64 p.degree, vp0, vp1], .agg #[vn0, vn1, vn2], .int .i64 a2] w fun e w' => e = .returned (.bool true) ∧ Below w.heap.size w w' := by
  obtain ⟨Pa0, pza0, rfl, _⟩ := id hp0.1
  obtain ⟨Pa1, pza1, rfl, _⟩ := id hp0.2
  obtain ⟨Na0, nza0, rfl, _⟩ := id hn0.1
  obtain ⟨Na1, nza1, rfl, _⟩ := id hn0.2.1
  obtain ⟨Na2, nza2, rfl, _⟩ := id hn0.2.2
  obtain ⟨w0, hw0⟩ : ∃ w0, w0 = ((w).alloc (.cells #[.int .i64 p.labels, .int .i64 p.degree, .slice Pa0 p.nodes.length pza0, .slice Pa1 p.edges.length pza1] 70)).alloc (.cells #[.slice Na0 n.ends.length nza0, .slice Na1 n.ids.length nza1, .slice Na2 n.inputs.length nza2] 29) := ⟨_, rfl⟩
  have hb0 : Below w.heap.size w w0 := by rw [hw0]; exact (((Below.refl _ _).alloc (by simp <;> omega) _).alloc (by simp <;> omega) _)
  have HAp := Lib.hid (show ∀ X, Since w0 X → PrIn X (.slice Pa0 p.nodes.length pza0) (.slice Pa1 p.edges.length pza1) p from fun X hX => (hp0.keep hb0).keep hX)
  have pp0 : ∀ W, Since w0 W → W.cell? ⟨w.heap.size, 0, none⟩ = some (.int .i64 p.labels) := have_cell (by rw [hw0]; simp [go_sem])
  have pp1 : ∀ W, Since w0 W → W.cell? ⟨w.heap.size, 1, none⟩ = some (.int .i64 p.degree) := have_cell (by rw [hw0]; simp [go_sem])
  have pp2 : ∀ W, Since w0 W → W.cell? ⟨w.heap.size, 2, none⟩ = some (.slice Pa0 p.nodes.length pza0) := have_cell (by rw [hw0]; simp [go_sem])
  have pp3 : ∀ W, Since w0 W → W.cell? ⟨w.heap.size, 3, none⟩ = some (.slice Pa1 p.edges.length pza1) := have_cell (by rw [hw0]; simp [go_sem])
  clear hp0
  have HAn := Lib.hid (show ∀ X, Since w0 X → NetIn X (.slice Na0 n.ends.length nza0) (.slice Na1 n.ids.length nza1) (.slice Na2 n.inputs.length nza2) n from fun X hX => (hn0.keep hb0).keep hX)
  have pn0 : ∀ W, Since w0 W → W.cell? ⟨w.heap.size + 1, 0, none⟩ = some (.slice Na0 n.ends.length nza0) := have_cell (by rw [hw0]; simp [go_sem])
  have pn1 : ∀ W, Since w0 W → W.cell? ⟨w.heap.size + 1, 1, none⟩ = some (.slice Na1 n.ids.length nza1) := have_cell (by rw [hw0]; simp [go_sem])
  have pn2 : ∀ W, Since w0 W → W.cell? ⟨w.heap.size + 1, 2, none⟩ = some (.slice Na2 n.inputs.length nza2) := have_cell (by rw [hw0]; simp [go_sem])
  clear hn0
  have Hb0 := Lib.hid hb0
  have Hw0 := Lib.hid hw0
  clear hb0 hw0
  obtain ⟨rs, hrs⟩ : ∃ rs : List (List (List Int)), fnExactFirstSolutions_r0 p n a2 = rs := ⟨_, rfl⟩
  have Hrs := Lib.hid hrs
  clear hrs
  obtain ⟨rr1, hrr⟩ : ∃ z, fnExactFirstSolutions_r1 p n a2 = z := ⟨_, rfl⟩
  have Hr1 := Lib.hid hrr
  clear hrr
  have hspec : ∀ (hzp : szPr p ≤ 1048576) (hzn : szNet n ≤ 1048576) (w : World) (yp0 yp1 : Value) (hp1 : PrIn w yp0 yp1 p) (yn0 yn1 yn2 : Value) (hn1 : NetIn w yn0 yn1 yn2 n), Calls Tryz.prog 51 #[.agg #[.int .i64 p.labels, .int .i64 p.degree, yp0, yp1], .agg #[yn0, yn1, yn2], .int .i64 a2] w fun e w' => ∃ u S, e = .returned (.tuple #[u, .bool rr1]) ∧ OwnIII w' w.heap.size u rs S ∧ szT rs ≤ 1000000000 ∧ Below w.heap.size w w' := fun hzp hzn w yp0 yp1 hp1 yn0 yn1 yn2 hn1 => by
    have key := (fnExactFirstSolutions_spec _ _ _ _ _ p n a2 w hp1 hn1 ba2 hzp hzn)
    rw [Hrs.out, Hr1.out] at key
    exact key
  have himpl : ∀ (hzp : szPr p ≤ 1048576) (hzn : szNet n ≤ 1048576) (w : World) (yp0 yp1 : Value) (hp1 : PrIn w yp0 yp1 p) (yn0 yn1 yn2 : Value) (hn1 : NetIn w yn0 yn1 yn2 n), Calls Tryz.prog 52 #[.agg #[.int .i64 p.labels, .int .i64 p.degree, yp0, yp1], .agg #[yn0, yn1, yn2], .int .i64 a2] w fun e w' => ∃ u S, e = .returned (.tuple #[u, .bool rr1]) ∧ OwnIII w' w.heap.size u rs S ∧ Below w.heap.size w w' := fun hzp hzn w yp0 yp1 hp1 yn0 yn1 yn2 hn1 => by
    have key := (fnExactFirstSolutions_impl _ _ _ _ _ p n a2 w hp1 hn1 ba2 hzp hzn)
    rw [Hrs.out, Hr1.out] at key
    exact key
  have Hspec := Lib.hid hspec
  have Himpl := Lib.hid himpl
  clear hspec himpl
  go_enter Tryz.func8, Tryz.ntmps8
  go_upto_region 1 with (fail)
  rw [← Hw0.out]
  have hs : Since w0 w0 := since_refl _
  go_wp2_with fail
  refine (szProblem_any _ _ p _ (by omega) (by omega) _ (HAp.out _ hs)).mono ?_
  rcases left_cases (l := 1048576) (by omega) (by omega) (szPr p) with hq | ⟨q0, hq, hq0a, hq0b, hszp⟩
  · rw [hq]
    rintro e W1 ⟨rfl, hb1⟩
    have HS := Lib.hid (Since.after Hb0.out (hs.trans hb1))
    clear hb1 hs
    go_wp2_with fail
    go_ret
    exact ⟨rfl, HS.out⟩
  rw [hq]
  rintro e W10 ⟨rfl, hb1⟩
  replace hs : Since w0 W10 := hs.trans hb1
  clear hb1 hq
  have Hszp := Lib.hid hszp
  clear hszp
  go_wp2_with fail
  refine (szNetwork_any _ _ _ n _ hq0a hq0b _ (HAn.out _ hs)).mono ?_
  rcases left_cases (l := q0) hq0a hq0b (szNet n) with hq | ⟨q1, hq, hq1a, hq1b, hszn⟩
  · rw [hq]
    rintro e W1 ⟨rfl, hb1⟩
    have HS := Lib.hid (Since.after Hb0.out (hs.trans hb1))
    clear hb1 hs
    go_wp2_with fail
    go_ret
    exact ⟨rfl, HS.out⟩
  rw [hq]
  rintro e W11 ⟨rfl, hb1⟩
  replace hs : Since w0 W11 := hs.trans hb1
  clear hb1 hq
  have Hszn := Lib.hid hszn
  clear hszn
  go_upto_region 8 with (fail)
  refine wp_region_chainflow (w0 := w0) 6 [false, true, false, true, false, true] (by kernel_rfl) (by kernel_rfl) (hs) ?_
  simp only [selF, selT, List.take_succ_cons, List.take_zero, List.drop_succ_cons, List.drop_zero]
  refine pflow_val (v := ?_) rfl ?_ ?_; rotate_left; (intro W hW; go_simp; with_reducible rfl)
  simp only [Act.put, List.setIfInBounds_toArray, List.set_cons_succ, List.set_cons_zero]
  refine pflow_val (v := ?_) rfl ?_ ?_; rotate_left; (intro W hW; go_simp; with_reducible rfl)
  simp only [Act.put, List.setIfInBounds_toArray, List.set_cons_succ, List.set_cons_zero]
  refine pflow_val (v := ?_) rfl ?_ ?_; rotate_left; (intro W hW; go_simp; with_reducible rfl)
  simp only [Act.put, List.setIfInBounds_toArray, List.set_cons_succ, List.set_cons_zero]
  obtain ⟨W, hWd⟩ : ∃ W, W = World.drew W11 := ⟨_, rfl⟩
  rw [← hWd]
  have hW : Since w0 W := by rw [hWd]; exact since_drew (hs)
  clear hWd
  refine Or.inl ⟨rfl, ?_⟩
  go_simp
  (with_reducible refine (toProblem_own _ _ p _ (HAp.out _ hW) Hszp.out).mono ?_)
  rintro e W' ⟨ups0, ups1, S, rfl, ho, hb⟩
  refine ⟨_, rfl, Since.trans hW hb, ?_⟩
  replace hW := Since.trans hW hb
  have hN := ho.read
  obtain ⟨Ps0, pzs0, rfl, _⟩ := id hN.1
  obtain ⟨Ps1, pzs1, rfl, _⟩ := id hN.2
  have Hps := Lib.hid (show ∀ X, Since W' X → PrIn X _ _  p from fun X hX => hN.keep hX)
  clear hN hb ho
  (try simp only [Act.put, List.setIfInBounds_toArray, List.set_cons_succ, List.set_cons_zero])
  refine Or.inl ⟨rfl, ?_⟩
  go_simp
  (with_reducible refine (toNetwork_any _ _ _ n _ (HAn.out _ hW) Hszn.out).mono ?_)
  rintro e W' ⟨uns0, uns1, uns2, S, rfl, ho, hb⟩
  refine ⟨_, rfl, Since.trans hW hb, ?_⟩
  replace hW := Since.trans hW hb
  have hN := ho.read
  obtain ⟨Ns0, nzs0, rfl, _⟩ := id hN.1
  obtain ⟨Ns1, nzs1, rfl, _⟩ := id hN.2.1
  obtain ⟨Ns2, nzs2, rfl, _⟩ := id hN.2.2
  have Hps := Lib.hid (show ∀ X, Since W' X → PrIn X _ _  p from fun X hX => Hps.out X (Since.after hb hX))
  have Hns := Lib.hid (show ∀ X, Since W' X → NetIn X _ _ _  n from fun X hX => hN.keep hX)
  clear hN hb ho
  (try simp only [Act.put, List.setIfInBounds_toArray, List.set_cons_succ, List.set_cons_zero])
  refine Or.inl ⟨rfl, ?_⟩
  go_simp
  (with_reducible refine (Hspec.out Hszp.out Hszn.out _ _ _ (Hps.out _ (since_refl _)) _ _ _ (Hns.out _ (since_refl _))).mono ?_)
  rintro e W' ⟨usr, S, rfl, ho, hlen, hb⟩
  refine ⟨_, rfl, Since.trans hW hb, ?_⟩
  replace hW := Since.trans hW hb
  obtain ⟨Us, ms, cs, rfl⟩ := lawIII.one ho
  have HQs := Lib.hid (show ∀ X, Since W' X → IntSSS X (.slice Us ms cs) rs from fun X hX => (lawIII.keep ho hX).read)
  have Hlens := Lib.hid hlen
  clear ho hb hlen
  (try simp only [Act.put, List.setIfInBounds_toArray, List.set_cons_succ, List.set_cons_zero])
  have HW0 := Lib.hid hW
  refine ⟨fun W => Since W' W, since_refl _, ?_⟩
  refine flow_val (v := ?_) rfl ?_ ?_; rotate_left; (intro W hW; go_simp; with_reducible rfl)
  simp only [Act.put, List.setIfInBounds_toArray, List.set_cons_succ, List.set_cons_zero]
  refine flow_val (v := ?_) rfl ?_ ?_; rotate_left; (intro W hW; go_simp; with_reducible rfl)
  simp only [Act.put, List.setIfInBounds_toArray, List.set_cons_succ, List.set_cons_zero]
  refine flow_val (v := ?_) rfl ?_ ?_; rotate_left; (intro W hW; go_simp; with_reducible rfl)
  simp only [Act.put, List.setIfInBounds_toArray, List.set_cons_succ, List.set_cons_zero]
  refine flow_val (v := ?_) rfl ?_ ?_; rotate_left; (intro W hW; go_simp; with_reducible rfl)
  simp only [Act.put, List.setIfInBounds_toArray, List.set_cons_succ, List.set_cons_zero]
  refine flow_val (v := ?_) rfl ?_ ?_; rotate_left; (intro W hW; go_simp; with_reducible rfl)
  simp only [Act.put, List.setIfInBounds_toArray, List.set_cons_succ, List.set_cons_zero]
  clear hW
  intro W hW
  clear Hps Hns
  have hs0 : Since w0 W := HW0.out.after hW
  have HQs' := Lib.hid (show ∀ X, Since W X → IntSSS X _ rs from fun X hX => HQs.out X (hW.after hX))
  clear HQs
  have HQs := HQs'
  clear HQs' hW HW0
  obtain ⟨WB, rfl⟩ : ∃ z, z = W := ⟨_, rfl⟩
  clear hs
  have gp0 := lift_cell pp0 hs0
  clear pp0
  have gp1 := lift_cell pp1 hs0
  clear pp1
  have gp2 := lift_cell pp2 hs0
  clear pp2
  have gp3 := lift_cell pp3 hs0
  clear pp3
  have gn0 := lift_cell pn0 hs0
  clear pn0
  have gn1 := lift_cell pn1 hs0
  clear pn1
  have gn2 := lift_cell pn2 hs0
  clear pn2
  have Hs0 := Lib.hid hs0
  clear hs0
  have HBp := Lib.hid (show ∀ X, Since WB X → PrIn X (.slice Pa0 p.nodes.length pza0) (.slice Pa1 p.edges.length pza1) p from fun X hX => HAp.out X (Hs0.out.after hX))
  have HBn := Lib.hid (show ∀ X, Since WB X → NetIn X (.slice Na0 n.ends.length nza0) (.slice Na1 n.ids.length nza1) (.slice Na2 n.inputs.length nza2) n from fun X hX => HAn.out X (Hs0.out.after hX))
  have hs : Since WB WB := since_refl _
  go_wp2_with fail
  refine (toProblem_own _ _ p _ (HBp.out _ hs) Hszp.out).mono ?_
  rintro e W40 ⟨upx0, upx1, Sp, rfl, ho, hb⟩
  have hN := ho.read
  obtain ⟨Px0, pzx0, rfl, _⟩ := id hN.1
  obtain ⟨Px1, pzx1, rfl, _⟩ := id hN.2
  obtain ⟨w50, hw5⟩ : ∃ z, z = W40.alloc (.cells #[.int .i64 p.labels, .int .i64 p.degree, .slice Px0 p.nodes.length pzx0, .slice Px1 p.edges.length pzx1] 74) := ⟨_, rfl⟩
  have h45 : Since W40 w50 := by rw [hw5]; exact since_alloc _ (since_refl _)
  have Ho0 := Lib.hid (show WB.heap.size ≤ W40.heap.size ∧ w50.heap.size = W40.heap.size + 1 from ⟨hb.size, by rw [hw5]; simp⟩)
  have HRp := Lib.hid (show ∀ j ∈ Sp, WB.heap.size ≤ j ∧ j < W40.heap.size from ho.range)
  have HXp := Lib.hid (show ∀ X, Since w50 X → OwnPr X WB.heap.size (.slice Px0 p.nodes.length pzx0) (.slice Px1 p.edges.length pzx1) p Sp from fun X hX => ho.keep (h45.after hX))
  have xp0 : ∀ X, Since w50 X → X.cell? ⟨W40.heap.size, 0, none⟩ = some (.int .i64 p.labels) := have_cell (by rw [hw5]; simp)
  have xp1 : ∀ X, Since w50 X → X.cell? ⟨W40.heap.size, 1, none⟩ = some (.int .i64 p.degree) := have_cell (by rw [hw5]; simp)
  have xp2 : ∀ X, Since w50 X → X.cell? ⟨W40.heap.size, 2, none⟩ = some (.slice Px0 p.nodes.length pzx0) := have_cell (by rw [hw5]; simp)
  have xp3 : ∀ X, Since w50 X → X.cell? ⟨W40.heap.size, 3, none⟩ = some (.slice Px1 p.edges.length pzx1) := have_cell (by rw [hw5]; simp)
  have hs' : Since WB (W40.alloc (.cells #[.int .i64 p.labels, .int .i64 p.degree, .slice Px0 p.nodes.length pzx0, .slice Px1 p.edges.length pzx1] 74)) := since_alloc _ (hs.trans hb)
  rw [← hw5] at hs'
  have hx0 : Since w50 w50 := since_refl _
  have hso : Since WB W40 := hs.trans hb
  have Hw5 := Lib.hid hw5
  clear hw5 hb hN h45 ho
  replace hs := hso
  clear hso
  have hsq := hs'
  rw [Hw5.out] at hsq
  go_wp2_with fail
  rw [← Hw5.out]
  clear hs hsq Hw5
  have hs := hs'
  clear hs'
  refine (toNetwork_any _ _ _ n _ (HBn.out _ hs) Hszn.out).mono ?_
  rintro e W41 ⟨unx0, unx1, unx2, Sn, rfl, ho, hb⟩
  have hN := ho.read
  obtain ⟨Nx0, nzx0, rfl, _⟩ := id hN.1
  obtain ⟨Nx1, nzx1, rfl, _⟩ := id hN.2.1
  obtain ⟨Nx2, nzx2, rfl, _⟩ := id hN.2.2
  obtain ⟨w51, hw5⟩ : ∃ z, z = W41.alloc (.cells #[.slice Nx0 n.ends.length nzx0, .slice Nx1 n.ids.length nzx1, .slice Nx2 n.inputs.length nzx2] 43) := ⟨_, rfl⟩
  have h45 : Since W41 w51 := by rw [hw5]; exact since_alloc _ (since_refl _)
  have Ho1 := Lib.hid (show w50.heap.size ≤ W41.heap.size ∧ w51.heap.size = W41.heap.size + 1 from ⟨hb.size, by rw [hw5]; simp⟩)
  have HRn := Lib.hid (show ∀ j ∈ Sn, w50.heap.size ≤ j ∧ j < W41.heap.size from ho.range)
  have HXn := Lib.hid (show ∀ X, Since w51 X → OwnNet X w50.heap.size (.slice Nx0 n.ends.length nzx0) (.slice Nx1 n.ids.length nzx1) (.slice Nx2 n.inputs.length nzx2) n Sn from fun X hX => ho.keep (h45.after hX))
  have xn0 : ∀ X, Since w51 X → X.cell? ⟨W41.heap.size, 0, none⟩ = some (.slice Nx0 n.ends.length nzx0) := have_cell (by rw [hw5]; simp)
  have xn1 : ∀ X, Since w51 X → X.cell? ⟨W41.heap.size, 1, none⟩ = some (.slice Nx1 n.ids.length nzx1) := have_cell (by rw [hw5]; simp)
  have xn2 : ∀ X, Since w51 X → X.cell? ⟨W41.heap.size, 2, none⟩ = some (.slice Nx2 n.inputs.length nzx2) := have_cell (by rw [hw5]; simp)
  have hs' : Since WB (W41.alloc (.cells #[.slice Nx0 n.ends.length nzx0, .slice Nx1 n.ids.length nzx1, .slice Nx2 n.inputs.length nzx2] 43)) := since_alloc _ (hs.trans hb)
  rw [← hw5] at hs'
  replace hx0 : Since w50 w51 := (Since.trans hx0 hb).after h45
  have hx1 : Since w51 w51 := since_refl _
  have hso : Since WB W41 := hs.trans hb
  have Hw5 := Lib.hid hw5
  clear hw5 hb hN h45 ho
  replace hs := hso
  clear hso
  have hsq := hs'
  rw [Hw5.out] at hsq
  have hxq0 := hx0
  rw [Hw5.out] at hxq0
  go_wp2_with fail
  rw [← Hw5.out]
  clear hs hsq Hw5 hxq0
  have hs := hs'
  clear hs'
  refine (Himpl.out Hszp.out Hszn.out _ _ _ (HXp.out _ hx0).read _ _ _ (HXn.out _ hx1).read).mono ?_
  rintro e W6 ⟨ug, Sg, rfl, hog, hb⟩
  obtain ⟨UG, mG, cG, rfl⟩ := lawIII.one hog
  have HRg := Lib.hid (show ∀ j ∈ Sg, w51.heap.size ≤ j from fun j hj => (lawIII.range hog j hj).1)
  have HG := Lib.hid (show ∀ X, Since W6 X → OwnIII X w51.heap.size (.slice UG mG cG) rs Sg from fun X hX => lawIII.keep hog hX)
  have hg : Since W6 W6 := since_refl _
  clear hog
  replace hs := Since.trans hs hb
  replace hx0 := Since.trans hx0 hb
  replace hx1 := Since.trans hx1 hb
  clear hb
  go_wp2_with fail
  refine (eqIntSSS_same _ _ rs _ (HG.out _ hg).read (HQs.out _ hs)).mono ?_
  rintro e W7 ⟨rfl, hb⟩
  replace hs := Since.trans hs hb
  replace hx0 := Since.trans hx0 hb
  replace hx1 := Since.trans hx1 hb
  replace hg := Since.trans hg hb
  clear hb
  go_upto_region 14 with (fail)
  have r0 := lift_cell xp0 hx0
  have g0 := lift_cell gp0 hs
  have r1 := lift_cell xp1 hx0
  have g1 := lift_cell gp1 hs
  have r2 := lift_cell xp2 hx0
  have g2 := lift_cell gp2 hs
  have r3 := lift_cell xp3 hx0
  have g3 := lift_cell gp3 hs
  have Hsh := Lib.hid hs
  clear hs
  have Hx0h := Lib.hid hx0
  clear hx0
  have Hx1h := Lib.hid hx1
  clear hx1
  have Hgh := Lib.hid hg
  clear hg
  have Zxp0 := Lib.hid xp0
  clear xp0
  have Zxp1 := Lib.hid xp1
  clear xp1
  have Zxp2 := Lib.hid xp2
  clear xp2
  have Zxp3 := Lib.hid xp3
  clear xp3
  have Zgp0 := Lib.hid gp0
  clear gp0
  have Zgp1 := Lib.hid gp1
  clear gp1
  have Zgp2 := Lib.hid gp2
  clear gp2
  have Zgp3 := Lib.hid gp3
  clear gp3
  have Zxn0 := Lib.hid xn0
  clear xn0
  have Zxn1 := Lib.hid xn1
  clear xn1
  have Zxn2 := Lib.hid xn2
  clear xn2
  have Zgn0 := Lib.hid gn0
  clear gn0
  have Zgn1 := Lib.hid gn1
  clear gn1
  have Zgn2 := Lib.hid gn2
  clear gn2
  refine wp_region_one (w0 := W7) 2 rfl (fun W u => ∃ a b, u = .agg #[.int .i64 p.labels, .int .i64 p.degree, a, b] ∧ PrIn W a b p) (fun W W' u h hs => by obtain ⟨a, b, rfl, h⟩ := h; exact ⟨a, b, rfl, h.keep hs⟩) (by kernel_rfl) (by kernel_rfl) (by kernel_rfl) (by simp) (since_refl _) ?_
  simp only [List.take_succ_cons, List.take_zero, List.drop_succ_cons, List.drop_zero]
  refine pflow_val (v := ?_) rfl ?_ ?_; rotate_left; (intro W hW; go_simp; with_reducible rfl)
  simp only [Act.put, List.setIfInBounds_toArray, List.set_cons_succ, List.set_cons_zero]
  refine pflow_val (v := ?_) rfl ?_ ?_; rotate_left; (intro W hW; go_simp; with_reducible rfl)
  simp only [Act.put, List.setIfInBounds_toArray, List.set_cons_succ, List.set_cons_zero]
  refine ⟨⟨rfl, fun W hW => ?_⟩, fun u => ?_⟩
  · unfold GivesAny
    go_simp
    refine (toProblem_own _ _  p W ((fun W hW => HBp.out W (Hsh.out.after hW)) W hW) Hszp.out).mono ?_
    rintro e W' ⟨a, b, S, rfl, ho, hb⟩
    exact ⟨_, rfl, ⟨a, b, rfl, ho.read⟩, hb⟩
  simp only [Act.put, List.setIfInBounds_toArray, List.set_cons_succ, List.set_cons_zero]
  (try simp only [List.getElem_toArray, List.getElem_cons_succ, List.getElem_cons_zero])
  (try simp only [Act.put, List.setIfInBounds_toArray, List.set_cons_succ, List.set_cons_zero])
  refine flow_op (.bool true) rfl (fun W hW => ?_) ?_
  · have hS := hW.1
    have hR := Lib.hid hW.2
    clear hW
    unfold Gives
    go_simp
    obtain ⟨a, b, hu, hN⟩ := hR.out
    rw [hu]
    refine (eqProblem_same _ _ _ _  p W ((fun W hW => (HXp.out W (Hx0h.out.after hW)).read) W hS) hN).mono ?_
    rintro e W' ⟨rfl, hb⟩
    exact ⟨rfl, hS.trans hb, a, b, rfl, hN.keep hb⟩
  simp only [Act.put, List.setIfInBounds_toArray, List.set_cons_succ, List.set_cons_zero]
  refine flow_val (v := .bool false) rfl (fun W hW => by go_simp) ?_
  simp only [Act.put, List.setIfInBounds_toArray, List.set_cons_succ, List.set_cons_zero]
  intro W90 hW9 _
  clear r0 g0 r1 g1 r2 g2 r3 g3
  have hs := Since.after Hsh.out hW9
  clear Hsh
  have hx0 := Since.after Hx0h.out hW9
  clear Hx0h
  have hx1 := Since.after Hx1h.out hW9
  clear Hx1h
  have hg := Since.after Hgh.out hW9
  clear Hgh
  clear hW9
  have xp0 := Zxp0.out
  clear Zxp0
  have xp1 := Zxp1.out
  clear Zxp1
  have xp2 := Zxp2.out
  clear Zxp2
  have xp3 := Zxp3.out
  clear Zxp3
  have gp0 := Zgp0.out
  clear Zgp0
  have gp1 := Zgp1.out
  clear Zgp1
  have gp2 := Zgp2.out
  clear Zgp2
  have gp3 := Zgp3.out
  clear Zgp3
  have xn0 := Zxn0.out
  clear Zxn0
  have xn1 := Zxn1.out
  clear Zxn1
  have xn2 := Zxn2.out
  clear Zxn2
  have gn0 := Zgn0.out
  clear Zgn0
  have gn1 := Zgn1.out
  clear Zgn1
  have gn2 := Zgn2.out
  clear Zgn2
  go_upto_region 16 with (fail)
  have r0 := lift_cell xn0 hx1
  have g0 := lift_cell gn0 hs
  have r1 := lift_cell xn1 hx1
  have g1 := lift_cell gn1 hs
  have r2 := lift_cell xn2 hx1
  have g2 := lift_cell gn2 hs
  have Hsh := Lib.hid hs
  clear hs
  have Hx0h := Lib.hid hx0
  clear hx0
  have Hx1h := Lib.hid hx1
  clear hx1
  have Hgh := Lib.hid hg
  clear hg
  have Zxp0 := Lib.hid xp0
  clear xp0
  have Zxp1 := Lib.hid xp1
  clear xp1
  have Zxp2 := Lib.hid xp2
  clear xp2
  have Zxp3 := Lib.hid xp3
  clear xp3
  have Zgp0 := Lib.hid gp0
  clear gp0
  have Zgp1 := Lib.hid gp1
  clear gp1
  have Zgp2 := Lib.hid gp2
  clear gp2
  have Zgp3 := Lib.hid gp3
  clear gp3
  have Zxn0 := Lib.hid xn0
  clear xn0
  have Zxn1 := Lib.hid xn1
  clear xn1
  have Zxn2 := Lib.hid xn2
  clear xn2
  have Zgn0 := Lib.hid gn0
  clear gn0
  have Zgn1 := Lib.hid gn1
  clear gn1
  have Zgn2 := Lib.hid gn2
  clear gn2
  refine wp_region_one (w0 := W90) 2 rfl (fun W u => ∃ a b c, u = .agg #[a, b, c] ∧ NetIn W a b c n) (fun W W' u h hs => by obtain ⟨a, b, c, rfl, h⟩ := h; exact ⟨a, b, c, rfl, h.keep hs⟩) (by kernel_rfl) (by kernel_rfl) (by kernel_rfl) (by simp) (since_refl _) ?_
  simp only [List.take_succ_cons, List.take_zero, List.drop_succ_cons, List.drop_zero]
  refine pflow_val (v := ?_) rfl ?_ ?_; rotate_left; (intro W hW; go_simp; with_reducible rfl)
  simp only [Act.put, List.setIfInBounds_toArray, List.set_cons_succ, List.set_cons_zero]
  refine pflow_val (v := ?_) rfl ?_ ?_; rotate_left; (intro W hW; go_simp; with_reducible rfl)
  simp only [Act.put, List.setIfInBounds_toArray, List.set_cons_succ, List.set_cons_zero]
  refine ⟨⟨rfl, fun W hW => ?_⟩, fun u => ?_⟩
  · unfold GivesAny
    go_simp
    refine (toNetwork_any _ _ _  n W ((fun W hW => HBn.out W (Hsh.out.after hW)) W hW) Hszn.out).mono ?_
    rintro e W' ⟨a, b, c, S, rfl, ho, hb⟩
    exact ⟨_, rfl, ⟨a, b, c, rfl, ho.read⟩, hb⟩
  simp only [Act.put, List.setIfInBounds_toArray, List.set_cons_succ, List.set_cons_zero]
  (try simp only [List.getElem_toArray, List.getElem_cons_succ, List.getElem_cons_zero])
  (try simp only [Act.put, List.setIfInBounds_toArray, List.set_cons_succ, List.set_cons_zero])
  refine flow_op (.bool true) rfl (fun W hW => ?_) ?_
  · have hS := hW.1
    have hR := Lib.hid hW.2
    clear hW
    unfold Gives
    go_simp
    obtain ⟨a, b, c, hu, hN⟩ := hR.out
    rw [hu]
    refine (eqNetwork_same _ _ _ _ _ _  n W ((fun W hW => (HXn.out W (Hx1h.out.after hW)).read) W hS) hN).mono ?_
    rintro e W' ⟨rfl, hb⟩
    exact ⟨rfl, hS.trans hb, a, b, c, rfl, hN.keep hb⟩
  simp only [Act.put, List.setIfInBounds_toArray, List.set_cons_succ, List.set_cons_zero]
  refine flow_val (v := .bool false) rfl (fun W hW => by go_simp) ?_
  simp only [Act.put, List.setIfInBounds_toArray, List.set_cons_succ, List.set_cons_zero]
  intro W91 hW9 _
  clear r0 g0 r1 g1 r2 g2
  have hs := Since.after Hsh.out hW9
  clear Hsh
  have hx0 := Since.after Hx0h.out hW9
  clear Hx0h
  have hx1 := Since.after Hx1h.out hW9
  clear Hx1h
  have hg := Since.after Hgh.out hW9
  clear Hgh
  clear hW9
  have xp0 := Zxp0.out
  clear Zxp0
  have xp1 := Zxp1.out
  clear Zxp1
  have xp2 := Zxp2.out
  clear Zxp2
  have xp3 := Zxp3.out
  clear Zxp3
  have gp0 := Zgp0.out
  clear Zgp0
  have gp1 := Zgp1.out
  clear Zgp1
  have gp2 := Zgp2.out
  clear Zgp2
  have gp3 := Zgp3.out
  clear Zgp3
  have xn0 := Zxn0.out
  clear Zxn0
  have xn1 := Zxn1.out
  clear Zxn1
  have xn2 := Zxn2.out
  clear Zxn2
  have gn0 := Zgn0.out
  clear Zgn0
  have gn1 := Zgn1.out
  clear Zgn1
  have gn2 := Zgn2.out
  clear Zgn2
  have Op := Lib.hid (HXp.out _ hx0)
  clear HXp
  have On := Lib.hid (HXn.out _ hx1)
  clear HXn
  have Og := Lib.hid (HG.out _ hg)
  clear HG
  replace xp0 := lift_cell xp0 hx0
  replace xp1 := lift_cell xp1 hx0
  replace xp2 := lift_cell xp2 hx0
  replace xp3 := lift_cell xp3 hx0
  replace xn0 := lift_cell xn0 hx1
  replace xn1 := lift_cell xn1 hx1
  replace xn2 := lift_cell xn2 hx1
  clear hx0 hx1 hg
  have hc : Since W91 W91 := since_refl _
  have Hk0 : Hid (1 ≤ 1) := Nat.le_refl 1
  obtain ⟨kq0, hkq⟩ : ∃ z, z = 1 + cntPr p := ⟨_, rfl⟩
  have Hkq0 := Lib.hid hkq
  clear hkq
  have Hkb0 : Hid (kq0 ≤ 4194305) := by
    show _ ≤ _
    have h1 := Hkq0.out
    have h2 : cntPr p ≤ 4194304 := by have := Hszp.out; unfold szPr szII at this; unfold cntPr; omega
    
    omega
  go_wp2_with fail
  refine (markProblem_any _ _ p 1 _ _ Sp Op.out (by have := Hkb0.out; have := Hkq0.out; omega)).mono ?_
  rw [← Hkq0.out]
  rintro e Wm0 ⟨rfl, hom, hon⟩
  replace hs : Since WB Wm0 := Below.trans hs (Only.below hon _ (Since.below hs).size (fun j hj => by have := (HRp.out j hj).1; have := Ho0.out; have := Ho1.out; omega))
  have O' := Lib.hid (OwnNet.stable On.out (fun j hj => hon.block j (On.out.range j hj).2 (fun hs' => by have := (HRp.out j hs'); have := (HRn.out j hj); have := Ho0.out; have := Ho1.out; omega)))
  clear On
  have On := O'
  clear O'
  have hnb : W41.heap.size ∉ Sp := fun hj => by have := (HRp.out _ hj).2; have := Ho0.out; have := Ho1.out; omega
  have y' := have_cell (hon.cell hnb (xn0 _ hc))
  clear xn0
  have xn0 := y'
  clear y'
  have y' := have_cell (hon.cell hnb (xn1 _ hc))
  clear xn1
  have xn1 := y'
  clear y'
  have y' := have_cell (hon.cell hnb (xn2 _ hc))
  clear xn2
  have xn2 := y'
  clear y'
  clear hnb
  have O' := Lib.hid (lawIII.stable Og.out (fun j hj => hon.block j (lawIII.range Og.out j hj).2 (fun hs' => by have := (HRp.out j hs'); have := (HRg.out j hj); have := Ho0.out; have := Ho1.out; omega)))
  clear Og
  have Og := O'
  clear O'
  clear xp0 xp1 xp2 xp3
  clear hc
  have hc : Since Wm0 Wm0 := since_refl _
  clear hom hon Op
  obtain ⟨kq1, hkq⟩ : ∃ z, z = kq0 + cntNet n := ⟨_, rfl⟩
  have Hkq1 := Lib.hid hkq
  clear hkq
  have Hkb1 : Hid (kq1 ≤ 8388609) := by
    show _ ≤ _
    have h1 := Hkq1.out
    have h2 : cntNet n ≤ 4194304 := by have := cnt_sz Hszn.out; omega
    have h3 := Hkb0.out
    omega
  have hkn : ((kq1 : Int) < 0) = False := by simp
  go_wp2_with fail
  refine (markNetwork_any _ _ _ n kq0 _ _ Sn On.out (by have := Hkb1.out; have := Hkq1.out; omega)).mono ?_
  rw [← Hkq1.out]
  rintro e Wm1 ⟨rfl, hom, hon⟩
  replace hs : Since WB Wm1 := Below.trans hs (Only.below hon _ (Since.below hs).size (fun j hj => by have := (HRn.out j hj).1; have := Ho0.out; have := Ho1.out; omega))
  have O' := Lib.hid (lawIII.stable Og.out (fun j hj => hon.block j (lawIII.range Og.out j hj).2 (fun hs' => by have := (HRn.out j hs'); have := (HRg.out j hj); have := Ho0.out; have := Ho1.out; omega)))
  clear Og
  have Og := O'
  clear O'
  clear xn0 xn1 xn2
  clear hc
  have hc : Since Wm1 Wm1 := since_refl _
  clear hom hon On
  clear hc
  go_wp2_with fail
  refine (eqIntSSS_same _ _ rs _ (Og.out.read) (HQs.out _ hs)).mono ?_
  rintro e W20 ⟨rfl, hb⟩
  have O' := Lib.hid (lawIII.keep Og.out hb)
  clear Og
  have Og := O'
  clear O'
  replace hs := Since.trans hs hb
  clear hb
  obtain ⟨km, hkm⟩ : ∃ z, z = 1 + szT rs := ⟨_, rfl⟩
  have Hkm := Lib.hid hkm
  have hkmx : ((km : Int) < 0) = False := by simp
  clear hkm
  go_wp2_with fail
  refine (markIntSSS_any _ rs 1 _ _ Sg Og.out (by have := Hlens.out; omega)).mono ?_
  rw [← Hkm.out]
  rintro e W21 ⟨rfl, hom, hon⟩
  replace hs : Since WB W21 := Below.trans hs (Only.below hon _ (Since.below hs).size (fun j hj => by have := HRg.out j hj; have := Ho0.out; have := Ho1.out; omega))
  have HM := Lib.hid (show ∀ X, Since W21 X → IntSSS X (.slice UG mG cG) (mkIII 1 rs) from fun X hX => (lawIII.keep hom hX).read)
  have hm : Since W21 W21 := since_refl _
  clear hom hon Og
  go_wp2_with fail
  refine (heldIntSSS_any _ rs 1 _ (HM.out _ hm) (by have := Hlens.out; omega)).mono ?_
  rw [← Hkm.out]
  rintro e W22 ⟨rfl, hw22⟩
  subst hw22
  replace gp0 := lift_cell gp0 hs
  replace gp1 := lift_cell gp1 hs
  replace gp2 := lift_cell gp2 hs
  replace gp3 := lift_cell gp3 hs
  replace gn0 := lift_cell gn0 hs
  replace gn1 := lift_cell gn1 hs
  replace gn2 := lift_cell gn2 hs
  go_upto_region 31 with (fail)
  have Hs1 := Lib.hid hs
  clear hs hm
  refine wp_region_chainflow (w0 := W21) 6 [false, true, false, true, false, true] (by kernel_rfl) (by kernel_rfl) (since_refl _) ?_
  simp only [selF, selT, List.take_succ_cons, List.take_zero, List.drop_succ_cons, List.drop_zero]
  refine pflow_val (v := ?_) rfl ?_ ?_; rotate_left; (intro W hW; go_simp; with_reducible rfl)
  simp only [Act.put, List.setIfInBounds_toArray, List.set_cons_succ, List.set_cons_zero]
  refine pflow_val (v := ?_) rfl ?_ ?_; rotate_left; (intro W hW; go_simp; with_reducible rfl)
  simp only [Act.put, List.setIfInBounds_toArray, List.set_cons_succ, List.set_cons_zero]
  refine pflow_val (v := ?_) rfl ?_ ?_; rotate_left; (intro W hW; go_simp; with_reducible rfl)
  simp only [Act.put, List.setIfInBounds_toArray, List.set_cons_succ, List.set_cons_zero]
  obtain ⟨W, hWd⟩ : ∃ W, W = World.drew W21 := ⟨_, rfl⟩
  rw [← hWd]
  have hW : Since W21 W := by rw [hWd]; exact since_drew (since_refl _)
  clear hWd
  refine Or.inl ⟨rfl, ?_⟩
  go_simp
  (with_reducible refine (toProblem_own _ _ p _ (HBp.out _ (Hs1.out.after hW)) Hszp.out).mono ?_)
  rintro e W' ⟨upt0, upt1, S, rfl, ho, hb⟩
  refine ⟨_, rfl, Since.trans hW hb, ?_⟩
  replace hW := Since.trans hW hb
  have hN := ho.read
  obtain ⟨Pt0, pzt0, rfl, _⟩ := id hN.1
  obtain ⟨Pt1, pzt1, rfl, _⟩ := id hN.2
  have Hpt := Lib.hid (show ∀ X, Since W' X → PrIn X _ _  p from fun X hX => hN.keep hX)
  clear hN hb ho
  (try simp only [Act.put, List.setIfInBounds_toArray, List.set_cons_succ, List.set_cons_zero])
  refine Or.inl ⟨rfl, ?_⟩
  go_simp
  (with_reducible refine (toNetwork_any _ _ _ n _ (HBn.out _ (Hs1.out.after hW)) Hszn.out).mono ?_)
  rintro e W' ⟨unt0, unt1, unt2, S, rfl, ho, hb⟩
  refine ⟨_, rfl, Since.trans hW hb, ?_⟩
  replace hW := Since.trans hW hb
  have hN := ho.read
  obtain ⟨Nt0, nzt0, rfl, _⟩ := id hN.1
  obtain ⟨Nt1, nzt1, rfl, _⟩ := id hN.2.1
  obtain ⟨Nt2, nzt2, rfl, _⟩ := id hN.2.2
  have Hpt := Lib.hid (show ∀ X, Since W' X → PrIn X _ _  p from fun X hX => Hpt.out X (Since.after hb hX))
  have Hnt := Lib.hid (show ∀ X, Since W' X → NetIn X _ _ _  n from fun X hX => hN.keep hX)
  clear hN hb ho
  (try simp only [Act.put, List.setIfInBounds_toArray, List.set_cons_succ, List.set_cons_zero])
  refine Or.inl ⟨rfl, ?_⟩
  go_simp
  (with_reducible refine (Himpl.out Hszp.out Hszn.out _ _ _ (Hpt.out _ (since_refl _)) _ _ _ (Hnt.out _ (since_refl _))).mono ?_)
  rintro e W' ⟨utr, S, rfl, ho, hb⟩
  refine ⟨_, rfl, Since.trans hW hb, ?_⟩
  replace hW := Since.trans hW hb
  obtain ⟨Ut, mt, ct, rfl⟩ := lawIII.one ho
  have HQt := Lib.hid (show ∀ X, Since W' X → IntSSS X (.slice Ut mt ct) rs from fun X hX => (lawIII.keep ho hX).read)
  clear ho hb
  (try simp only [Act.put, List.setIfInBounds_toArray, List.set_cons_succ, List.set_cons_zero])
  have HW0 := Lib.hid hW
  refine ⟨fun W => Since W' W, since_refl _, ?_⟩
  refine flow_val (v := ?_) rfl ?_ ?_; rotate_left; (intro W hW; go_simp; with_reducible rfl)
  simp only [Act.put, List.setIfInBounds_toArray, List.set_cons_succ, List.set_cons_zero]
  refine flow_val (v := ?_) rfl ?_ ?_; rotate_left; (intro W hW; go_simp; with_reducible rfl)
  simp only [Act.put, List.setIfInBounds_toArray, List.set_cons_succ, List.set_cons_zero]
  refine flow_val (v := ?_) rfl ?_ ?_; rotate_left; (intro W hW; go_simp; with_reducible rfl)
  simp only [Act.put, List.setIfInBounds_toArray, List.set_cons_succ, List.set_cons_zero]
  refine flow_val (v := ?_) rfl ?_ ?_; rotate_left; (intro W hW; go_simp; with_reducible rfl)
  simp only [Act.put, List.setIfInBounds_toArray, List.set_cons_succ, List.set_cons_zero]
  refine flow_val (v := ?_) rfl ?_ ?_; rotate_left; (intro W hW; go_simp; with_reducible rfl)
  simp only [Act.put, List.setIfInBounds_toArray, List.set_cons_succ, List.set_cons_zero]
  clear hW
  intro W hW
  clear Hpt Hnt
  have hm : Since W21 W := HW0.out.after hW
  have hs := Hs1.out.after hm
  have HQt' := Lib.hid (HQt.out _ hW)
  clear hW
  go_wp2_with fail
  refine (eqIntSSS_same _ _ rs _ HQt'.out (HQs.out _ hs)).mono ?_
  rintro e W24 ⟨rfl, hb⟩
  replace hs := Since.trans hs hb
  replace hm := Since.trans hm hb
  clear hb
  go_wp2_with fail
  refine (heldIntSSS_any _ rs 1 _ (HM.out _ hm) (by have := Hlens.out; omega)).mono ?_
  rw [← Hkm.out]
  rintro e W25 ⟨rfl, hw25⟩
  subst hw25
  go_wp2_with fail
  go_ret
  exact ⟨rfl, Since.after Hb0.out (Hs0.out.after hs)⟩
end Go.Proofs.YtomnaabadohecaaGreat
