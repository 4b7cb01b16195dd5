/- Parts of the proof: walks of functions and plain laws. -/
import Derived.Test.YtlfehdikgbgloaaGreatP7
import Derived.Test.YtlfehdikgbgloaaGreatP8
import Derived.Test.YtlfehdikgbgloaaGreatP18
import Derived.Test.YtlfehdikgbgloaaGreatP19
namespace Go.Proofs.YtlfehdikgbgloaaGreat
open Go.RowKit
set_option maxRecDepth 100000 in
set_option maxHeartbeats 16000000 in
theorem fnExactFirstAsyncFault_walk (w : World) (vm0 vm1 vm2 vm3 : Value) (m : Mac) (hm0 : MacIn w vm0 vm1 vm2 vm3 m) (_ : Mac64 m) (vn0 vn1 vn2 : Value) (n : Net) (hn0 : NetIn w vn0 vn1 vn2 n) (_ : Net64 n) (vx0 vx1 vx2 vx3 vx4 : Value) (x : ASt) (hx0 : AsIn w vx0 vx1 vx2 vx3 vx4 x) (_ : ASt64 x) :
    Calls Tryz.prog 11 #[.agg #[.int .i64 m.degree, .int .i64 m.states, .int .i64 m.messages, vm0, vm1, vm2, vm3], .agg #[vn0, vn1, vn2], .agg #[vx0, vx1, vx2, vx3, vx4]] w fun e w' => e = .returned (.bool true) ∧ Below w.heap.size w w' := by
  obtain ⟨Ma0, mza0, rfl, _⟩ := id hm0.1
  obtain ⟨Ma1, mza1, rfl, _⟩ := id hm0.2.1
  obtain ⟨Ma2, mza2, rfl, _⟩ := id hm0.2.2.1
  obtain ⟨Ma3, mza3, rfl, _⟩ := id hm0.2.2.2
  obtain ⟨Na0, nza0, rfl, _⟩ := id hn0.1
  obtain ⟨Na1, nza1, rfl, _⟩ := id hn0.2.1
  obtain ⟨Na2, nza2, rfl, _⟩ := id hn0.2.2
  obtain ⟨Xa0, xza0, rfl, _⟩ := id hx0.1
  obtain ⟨Xa1, xza1, rfl, _⟩ := id hx0.2.1
  obtain ⟨Xa2, xza2, rfl, _⟩ := id hx0.2.2.1
  obtain ⟨Xa3, xza3, rfl, _⟩ := id hx0.2.2.2.1
  obtain ⟨Xa4, xza4, rfl, _⟩ := id hx0.2.2.2.2
  obtain ⟨w0, hw0⟩ : ∃ w0, w0 = (((w).alloc (.cells #[.int .i64 m.degree, .int .i64 m.states, .int .i64 m.messages, .slice Ma0 m.start.length mza0, .slice Ma1 m.send.length mza1, .slice Ma2 m.clauses.length mza2, .slice Ma3 m.output.length mza3] 53)).alloc (.cells #[.slice Na0 n.ends.length nza0, .slice Na1 n.ids.length nza1, .slice Na2 n.inputs.length nza2] 25)).alloc (.cells #[.slice Xa0 x.rounds.length xza0, .slice Xa1 x.before.length xza1, .slice Xa2 x.now.length xza2, .slice Xa3 x.slots.length xza3, .slice Xa4 x.flight.length xza4] 56) := ⟨_, rfl⟩
  have hb0 : Below w.heap.size w w0 := by rw [hw0]; exact ((((Below.refl _ _).alloc (by simp <;> omega) _).alloc (by simp <;> omega) _).alloc (by simp <;> omega) _)
  have HAm := Lib.hid (show ∀ X, Since w0 X → MacIn X (.slice Ma0 m.start.length mza0) (.slice Ma1 m.send.length mza1) (.slice Ma2 m.clauses.length mza2) (.slice Ma3 m.output.length mza3) m from fun X hX => (hm0.keep hb0).keep hX)
  have pm0 : ∀ W, Since w0 W → W.cell? ⟨w.heap.size, 0, none⟩ = some (.int .i64 m.degree) := have_cell (by rw [hw0]; simp [go_sem])
  have pm1 : ∀ W, Since w0 W → W.cell? ⟨w.heap.size, 1, none⟩ = some (.int .i64 m.states) := have_cell (by rw [hw0]; simp [go_sem])
  have pm2 : ∀ W, Since w0 W → W.cell? ⟨w.heap.size, 2, none⟩ = some (.int .i64 m.messages) := have_cell (by rw [hw0]; simp [go_sem])
  have pm3 : ∀ W, Since w0 W → W.cell? ⟨w.heap.size, 3, none⟩ = some (.slice Ma0 m.start.length mza0) := have_cell (by rw [hw0]; simp [go_sem])
  have pm4 : ∀ W, Since w0 W → W.cell? ⟨w.heap.size, 4, none⟩ = some (.slice Ma1 m.send.length mza1) := have_cell (by rw [hw0]; simp [go_sem])
  have pm5 : ∀ W, Since w0 W → W.cell? ⟨w.heap.size, 5, none⟩ = some (.slice Ma2 m.clauses.length mza2) := have_cell (by rw [hw0]; simp [go_sem])
  have pm6 : ∀ W, Since w0 W → W.cell? ⟨w.heap.size, 6, none⟩ = some (.slice Ma3 m.output.length mza3) := have_cell (by rw [hw0]; simp [go_sem])
  clear hm0
  have HAn := Lib.hid (show ∀ X, Since w0 X → NetIn X (.slice Na0 n.ends.length nza0) (.slice Na1 n.ids.length nza1) (.slice Na2 n.inputs.length nza2) n from fun X hX => (hn0.keep hb0).keep hX)
  have pn0 : ∀ W, Since w0 W → W.cell? ⟨w.heap.size + 1, 0, none⟩ = some (.slice Na0 n.ends.length nza0) := have_cell (by rw [hw0]; simp [go_sem])
  have pn1 : ∀ W, Since w0 W → W.cell? ⟨w.heap.size + 1, 1, none⟩ = some (.slice Na1 n.ids.length nza1) := have_cell (by rw [hw0]; simp [go_sem])
  have pn2 : ∀ W, Since w0 W → W.cell? ⟨w.heap.size + 1, 2, none⟩ = some (.slice Na2 n.inputs.length nza2) := have_cell (by rw [hw0]; simp [go_sem])
  clear hn0
  have HAx := Lib.hid (show ∀ X, Since w0 X → AsIn X (.slice Xa0 x.rounds.length xza0) (.slice Xa1 x.before.length xza1) (.slice Xa2 x.now.length xza2) (.slice Xa3 x.slots.length xza3) (.slice Xa4 x.flight.length xza4) x from fun X hX => (hx0.keep hb0).keep hX)
  have px0 : ∀ W, Since w0 W → W.cell? ⟨w.heap.size + 1 + 1, 0, none⟩ = some (.slice Xa0 x.rounds.length xza0) := have_cell (by rw [hw0]; simp [go_sem])
  have px1 : ∀ W, Since w0 W → W.cell? ⟨w.heap.size + 1 + 1, 1, none⟩ = some (.slice Xa1 x.before.length xza1) := have_cell (by rw [hw0]; simp [go_sem])
  have px2 : ∀ W, Since w0 W → W.cell? ⟨w.heap.size + 1 + 1, 2, none⟩ = some (.slice Xa2 x.now.length xza2) := have_cell (by rw [hw0]; simp [go_sem])
  have px3 : ∀ W, Since w0 W → W.cell? ⟨w.heap.size + 1 + 1, 3, none⟩ = some (.slice Xa3 x.slots.length xza3) := have_cell (by rw [hw0]; simp [go_sem])
  have px4 : ∀ W, Since w0 W → W.cell? ⟨w.heap.size + 1 + 1, 4, none⟩ = some (.slice Xa4 x.flight.length xza4) := have_cell (by rw [hw0]; simp [go_sem])
  clear hx0
  have Hb0 := Lib.hid hb0
  have Hw0 := Lib.hid hw0
  clear hb0 hw0
  go_enter Tryz.func11, Tryz.ntmps11
  go_upto_region 1 with (fail)
  rw [← Hw0.out]
  have hs : Since w0 w0 := since_refl _
  go_wp2_with fail
  refine (szMachine_any _ _ _ _ m _ (by omega) (by omega) _ (HAm.out _ hs)).mono ?_
  rcases left_cases (l := 1048576) (by omega) (by omega) (szMac m) with hq | ⟨q0, hq, hq0a, hq0b, hszm⟩
  · rw [hq]
    rintro e W1 ⟨rfl, hb1⟩
    have HS := Lib.hid (Since.after Hb0.out (hs.trans hb1))
    clear hb1 hs
    go_wp2_with fail
    go_ret
    exact ⟨rfl, HS.out⟩
  rw [hq]
  rintro e W10 ⟨rfl, hb1⟩
  replace hs : Since w0 W10 := hs.trans hb1
  clear hb1 hq
  have Hszm := Lib.hid hszm
  clear hszm
  go_wp2_with fail
  refine (szNetwork_any _ _ _ n _ hq0a hq0b _ (HAn.out _ hs)).mono ?_
  rcases left_cases (l := q0) hq0a hq0b (szNet n) with hq | ⟨q1, hq, hq1a, hq1b, hszn⟩
  · rw [hq]
    rintro e W1 ⟨rfl, hb1⟩
    have HS := Lib.hid (Since.after Hb0.out (hs.trans hb1))
    clear hb1 hs
    go_wp2_with fail
    go_ret
    exact ⟨rfl, HS.out⟩
  rw [hq]
  rintro e W11 ⟨rfl, hb1⟩
  replace hs : Since w0 W11 := hs.trans hb1
  clear hb1 hq
  have Hszn := Lib.hid hszn
  clear hszn
  go_wp2_with fail
  refine (szAsyncState_any _ _ _ _ _ x _ hq1a hq1b _ (HAx.out _ hs)).mono ?_
  rcases left_cases (l := q1) hq1a hq1b (szAs x) with hq | ⟨q2, hq, hq2a, hq2b, hszx⟩
  · rw [hq]
    rintro e W1 ⟨rfl, hb1⟩
    have HS := Lib.hid (Since.after Hb0.out (hs.trans hb1))
    clear hb1 hs
    go_wp2_with fail
    go_ret
    exact ⟨rfl, HS.out⟩
  rw [hq]
  rintro e W12 ⟨rfl, hb1⟩
  replace hs : Since w0 W12 := hs.trans hb1
  clear hb1 hq
  have Hszx := Lib.hid hszx
  clear hszx
  go_upto_region 11 with (fail)
  refine wp_region_chainflow (w0 := w0) 7 [false, true, false, true, false, true, true] (by kernel_rfl) (by kernel_rfl) (hs) ?_
  simp only [selF, selT, List.take_succ_cons, List.take_zero, List.drop_succ_cons, List.drop_zero]
  refine pflow_val (v := ?_) rfl ?_ ?_; rotate_left; (intro W hW; go_simp; with_reducible rfl)
  simp only [Act.put, List.setIfInBounds_toArray, List.set_cons_succ, List.set_cons_zero]
  refine pflow_val (v := ?_) rfl ?_ ?_; rotate_left; (intro W hW; go_simp; with_reducible rfl)
  simp only [Act.put, List.setIfInBounds_toArray, List.set_cons_succ, List.set_cons_zero]
  refine pflow_val (v := ?_) rfl ?_ ?_; rotate_left; (intro W hW; go_simp; with_reducible rfl)
  simp only [Act.put, List.setIfInBounds_toArray, List.set_cons_succ, List.set_cons_zero]
  obtain ⟨W, hWd⟩ : ∃ W, W = World.drew W12 := ⟨_, rfl⟩
  rw [← hWd]
  have hW : Since w0 W := by rw [hWd]; exact since_drew (hs)
  clear hWd
  refine Or.inl ⟨rfl, ?_⟩
  go_simp
  (with_reducible refine (toMachine_any _ _ _ _ m _ (HAm.out _ hW) Hszm.out).mono ?_)
  rintro e W' ⟨ums0, ums1, ums2, ums3, rfl, hN, hb⟩
  refine ⟨_, rfl, Since.trans hW hb, ?_⟩
  replace hW := Since.trans hW hb
  obtain ⟨Ms0, mzs0, rfl, _⟩ := id hN.1
  obtain ⟨Ms1, mzs1, rfl, _⟩ := id hN.2.1
  obtain ⟨Ms2, mzs2, rfl, _⟩ := id hN.2.2.1
  obtain ⟨Ms3, mzs3, rfl, _⟩ := id hN.2.2.2
  have Hms := Lib.hid (show ∀ X, Since W' X → MacIn X (.slice Ms0 m.start.length mzs0) (.slice Ms1 m.send.length mzs1) (.slice Ms2 m.clauses.length mzs2) (.slice Ms3 m.output.length mzs3) m from fun X hX => hN.keep hX)
  clear hN hb
  (try simp only [Act.put, List.setIfInBounds_toArray, List.set_cons_succ, List.set_cons_zero])
  refine Or.inl ⟨rfl, ?_⟩
  go_simp
  (with_reducible refine (toNetwork_any _ _ _ n _ (HAn.out _ hW) Hszn.out).mono ?_)
  rintro e W' ⟨uns0, uns1, uns2, S, rfl, ho, hb⟩
  refine ⟨_, rfl, Since.trans hW hb, ?_⟩
  replace hW := Since.trans hW hb
  have hN := ho.read
  obtain ⟨Ns0, nzs0, rfl, _⟩ := id hN.1
  obtain ⟨Ns1, nzs1, rfl, _⟩ := id hN.2.1
  obtain ⟨Ns2, nzs2, rfl, _⟩ := id hN.2.2
  have Hms := Lib.hid (show ∀ X, Since W' X → MacIn X (.slice Ms0 m.start.length mzs0) (.slice Ms1 m.send.length mzs1) (.slice Ms2 m.clauses.length mzs2) (.slice Ms3 m.output.length mzs3) m from fun X hX => Hms.out X (Since.after hb hX))
  have Hns := Lib.hid (show ∀ X, Since W' X → NetIn X (.slice Ns0 n.ends.length nzs0) (.slice Ns1 n.ids.length nzs1) (.slice Ns2 n.inputs.length nzs2) n from fun X hX => hN.keep hX)
  clear hN hb ho
  (try simp only [Act.put, List.setIfInBounds_toArray, List.set_cons_succ, List.set_cons_zero])
  refine Or.inl ⟨rfl, ?_⟩
  go_simp
  (with_reducible refine (toAsyncState_any _ _ _ _ _ x _ (HAx.out _ hW) Hszx.out).mono ?_)
  rintro e W' ⟨uxs0, uxs1, uxs2, uxs3, uxs4, rfl, hN, hb⟩
  refine ⟨_, rfl, Since.trans hW hb, ?_⟩
  replace hW := Since.trans hW hb
  obtain ⟨Xs0, xzs0, rfl, _⟩ := id hN.1
  obtain ⟨Xs1, xzs1, rfl, _⟩ := id hN.2.1
  obtain ⟨Xs2, xzs2, rfl, _⟩ := id hN.2.2.1
  obtain ⟨Xs3, xzs3, rfl, _⟩ := id hN.2.2.2.1
  obtain ⟨Xs4, xzs4, rfl, _⟩ := id hN.2.2.2.2
  have Hms := Lib.hid (show ∀ X, Since W' X → MacIn X (.slice Ms0 m.start.length mzs0) (.slice Ms1 m.send.length mzs1) (.slice Ms2 m.clauses.length mzs2) (.slice Ms3 m.output.length mzs3) m from fun X hX => Hms.out X (Since.after hb hX))
  have Hns := Lib.hid (show ∀ X, Since W' X → NetIn X (.slice Ns0 n.ends.length nzs0) (.slice Ns1 n.ids.length nzs1) (.slice Ns2 n.inputs.length nzs2) n from fun X hX => Hns.out X (Since.after hb hX))
  have Hxs := Lib.hid (show ∀ X, Since W' X → AsIn X (.slice Xs0 x.rounds.length xzs0) (.slice Xs1 x.before.length xzs1) (.slice Xs2 x.now.length xzs2) (.slice Xs3 x.slots.length xzs3) (.slice Xs4 x.flight.length xzs4) x from fun X hX => hN.keep hX)
  clear hN hb
  (try simp only [Act.put, List.setIfInBounds_toArray, List.set_cons_succ, List.set_cons_zero])
  refine Or.inl ⟨rfl, ?_⟩
  go_simp
  (with_reducible refine (fnExactFirstAsyncFault_spec _ _ _ _ _ _ _ _ _ _ _ _ m n x _ (Hms.out _ (since_refl _)) (Hns.out _ (since_refl _)) (Hxs.out _ (since_refl _)) Hszm.out Hszn.out Hszx.out).mono ?_)
  rintro e W' ⟨rfl, hb⟩
  refine ⟨_, rfl, Since.trans hW hb, ?_⟩
  replace hW := Since.trans hW hb
  clear hb
  (try simp only [Act.put, List.setIfInBounds_toArray, List.set_cons_succ, List.set_cons_zero])
  refine ⟨fun W => Since w0 W, hW, ?_⟩
  refine flow_val (v := ?_) rfl ?_ ?_; rotate_left; (intro W hW; go_simp; with_reducible rfl)
  simp only [Act.put, List.setIfInBounds_toArray, List.set_cons_succ, List.set_cons_zero]
  refine flow_val (v := ?_) rfl ?_ ?_; rotate_left; (intro W hW; go_simp; with_reducible rfl)
  simp only [Act.put, List.setIfInBounds_toArray, List.set_cons_succ, List.set_cons_zero]
  refine flow_val (v := ?_) rfl ?_ ?_; rotate_left; (intro W hW; go_simp; with_reducible rfl)
  simp only [Act.put, List.setIfInBounds_toArray, List.set_cons_succ, List.set_cons_zero]
  refine flow_val (v := ?_) rfl ?_ ?_; rotate_left; (intro W hW; go_simp; with_reducible rfl)
  simp only [Act.put, List.setIfInBounds_toArray, List.set_cons_succ, List.set_cons_zero]
  refine flow_val (v := ?_) rfl ?_ ?_; rotate_left; (intro W hW; go_simp; with_reducible rfl)
  simp only [Act.put, List.setIfInBounds_toArray, List.set_cons_succ, List.set_cons_zero]
  clear hW
  intro W hW
  clear hs Hms Hns Hxs
  have hs := hW
  clear hW
  go_wp2_with fail
  refine (toMachine_any _ _ _ _ m _ (HAm.out _ hs) Hszm.out).mono ?_
  rintro e W40 ⟨umx0, umx1, umx2, umx3, rfl, hN, hb⟩
  obtain ⟨Mx0, mzx0, rfl, _⟩ := id hN.1
  obtain ⟨Mx1, mzx1, rfl, _⟩ := id hN.2.1
  obtain ⟨Mx2, mzx2, rfl, _⟩ := id hN.2.2.1
  obtain ⟨Mx3, mzx3, rfl, _⟩ := id hN.2.2.2
  have hs' : Since w0 (W40.alloc (.cells #[.int .i64 m.degree, .int .i64 m.states, .int .i64 m.messages, .slice Mx0 m.start.length mzx0, .slice Mx1 m.send.length mzx1, .slice Mx2 m.clauses.length mzx2, .slice Mx3 m.output.length mzx3] 62)) := since_alloc _ (hs.trans hb)
  obtain ⟨w50, hw5⟩ : ∃ z, z = W40.alloc (.cells #[.int .i64 m.degree, .int .i64 m.states, .int .i64 m.messages, .slice Mx0 m.start.length mzx0, .slice Mx1 m.send.length mzx1, .slice Mx2 m.clauses.length mzx2, .slice Mx3 m.output.length mzx3] 62) := ⟨_, rfl⟩
  have h45 : Since W40 w50 := by rw [hw5]; exact since_alloc _ (since_refl _)
  have HXm := Lib.hid (show ∀ X, Since w50 X → MacIn X (.slice Mx0 m.start.length mzx0) (.slice Mx1 m.send.length mzx1) (.slice Mx2 m.clauses.length mzx2) (.slice Mx3 m.output.length mzx3) m from fun X hX => hN.keep (h45.after hX))
  have xm0 : ∀ X, Since w50 X → X.cell? ⟨W40.heap.size, 0, none⟩ = some (.int .i64 m.degree) := have_cell (by rw [hw5]; simp)
  have xm1 : ∀ X, Since w50 X → X.cell? ⟨W40.heap.size, 1, none⟩ = some (.int .i64 m.states) := have_cell (by rw [hw5]; simp)
  have xm2 : ∀ X, Since w50 X → X.cell? ⟨W40.heap.size, 2, none⟩ = some (.int .i64 m.messages) := have_cell (by rw [hw5]; simp)
  have xm3 : ∀ X, Since w50 X → X.cell? ⟨W40.heap.size, 3, none⟩ = some (.slice Mx0 m.start.length mzx0) := have_cell (by rw [hw5]; simp)
  have xm4 : ∀ X, Since w50 X → X.cell? ⟨W40.heap.size, 4, none⟩ = some (.slice Mx1 m.send.length mzx1) := have_cell (by rw [hw5]; simp)
  have xm5 : ∀ X, Since w50 X → X.cell? ⟨W40.heap.size, 5, none⟩ = some (.slice Mx2 m.clauses.length mzx2) := have_cell (by rw [hw5]; simp)
  have xm6 : ∀ X, Since w50 X → X.cell? ⟨W40.heap.size, 6, none⟩ = some (.slice Mx3 m.output.length mzx3) := have_cell (by rw [hw5]; simp)
  rw [← hw5] at hs'
  have hx0 : Since w50 w50 := since_refl _
  have hso : Since w0 W40 := hs.trans hb
  have Hw5 := Lib.hid hw5
  clear hw5 hb hN h45
  replace hs := hso
  clear hso
  have hsq := hs'
  rw [Hw5.out] at hsq
  go_wp2_with fail
  rw [← Hw5.out]
  clear hs hsq Hw5
  have hs := hs'
  clear hs'
  refine (toNetwork_any _ _ _ n _ (HAn.out _ hs) Hszn.out).mono ?_
  rintro e W41 ⟨unx0, unx1, unx2, Sx, rfl, ho, hb⟩
  have hN := ho.read
  obtain ⟨Nx0, nzx0, rfl, _⟩ := id hN.1
  obtain ⟨Nx1, nzx1, rfl, _⟩ := id hN.2.1
  obtain ⟨Nx2, nzx2, rfl, _⟩ := id hN.2.2
  have hs' : Since w0 (W41.alloc (.cells #[.slice Nx0 n.ends.length nzx0, .slice Nx1 n.ids.length nzx1, .slice Nx2 n.inputs.length nzx2] 31)) := since_alloc _ (hs.trans hb)
  obtain ⟨w51, hw5⟩ : ∃ z, z = W41.alloc (.cells #[.slice Nx0 n.ends.length nzx0, .slice Nx1 n.ids.length nzx1, .slice Nx2 n.inputs.length nzx2] 31) := ⟨_, rfl⟩
  have h45 : Since W41 w51 := by rw [hw5]; exact since_alloc _ (since_refl _)
  have HXn := Lib.hid (show ∀ X, Since w51 X → NetIn X (.slice Nx0 n.ends.length nzx0) (.slice Nx1 n.ids.length nzx1) (.slice Nx2 n.inputs.length nzx2) n from fun X hX => hN.keep (h45.after hX))
  have xn0 : ∀ X, Since w51 X → X.cell? ⟨W41.heap.size, 0, none⟩ = some (.slice Nx0 n.ends.length nzx0) := have_cell (by rw [hw5]; simp)
  have xn1 : ∀ X, Since w51 X → X.cell? ⟨W41.heap.size, 1, none⟩ = some (.slice Nx1 n.ids.length nzx1) := have_cell (by rw [hw5]; simp)
  have xn2 : ∀ X, Since w51 X → X.cell? ⟨W41.heap.size, 2, none⟩ = some (.slice Nx2 n.inputs.length nzx2) := have_cell (by rw [hw5]; simp)
  rw [← hw5] at hs'
  replace hx0 : Since w50 w51 := (Since.trans hx0 hb).after h45
  have hx1 : Since w51 w51 := since_refl _
  have hso : Since w0 W41 := hs.trans hb
  have Hw5 := Lib.hid hw5
  clear hw5 hb hN h45 ho
  replace hs := hso
  clear hso
  have hsq := hs'
  rw [Hw5.out] at hsq
  have hxq0 := hx0
  rw [Hw5.out] at hxq0
  go_wp2_with fail
  rw [← Hw5.out]
  clear hs hsq Hw5 hxq0
  have hs := hs'
  clear hs'
  refine (toAsyncState_any _ _ _ _ _ x _ (HAx.out _ hs) Hszx.out).mono ?_
  rintro e W42 ⟨uxx0, uxx1, uxx2, uxx3, uxx4, rfl, hN, hb⟩
  obtain ⟨Xx0, xzx0, rfl, _⟩ := id hN.1
  obtain ⟨Xx1, xzx1, rfl, _⟩ := id hN.2.1
  obtain ⟨Xx2, xzx2, rfl, _⟩ := id hN.2.2.1
  obtain ⟨Xx3, xzx3, rfl, _⟩ := id hN.2.2.2.1
  obtain ⟨Xx4, xzx4, rfl, _⟩ := id hN.2.2.2.2
  have hs' : Since w0 (W42.alloc (.cells #[.slice Xx0 x.rounds.length xzx0, .slice Xx1 x.before.length xzx1, .slice Xx2 x.now.length xzx2, .slice Xx3 x.slots.length xzx3, .slice Xx4 x.flight.length xzx4] 66)) := since_alloc _ (hs.trans hb)
  obtain ⟨w52, hw5⟩ : ∃ z, z = W42.alloc (.cells #[.slice Xx0 x.rounds.length xzx0, .slice Xx1 x.before.length xzx1, .slice Xx2 x.now.length xzx2, .slice Xx3 x.slots.length xzx3, .slice Xx4 x.flight.length xzx4] 66) := ⟨_, rfl⟩
  have h45 : Since W42 w52 := by rw [hw5]; exact since_alloc _ (since_refl _)
  have HXx := Lib.hid (show ∀ X, Since w52 X → AsIn X (.slice Xx0 x.rounds.length xzx0) (.slice Xx1 x.before.length xzx1) (.slice Xx2 x.now.length xzx2) (.slice Xx3 x.slots.length xzx3) (.slice Xx4 x.flight.length xzx4) x from fun X hX => hN.keep (h45.after hX))
  have xx0 : ∀ X, Since w52 X → X.cell? ⟨W42.heap.size, 0, none⟩ = some (.slice Xx0 x.rounds.length xzx0) := have_cell (by rw [hw5]; simp)
  have xx1 : ∀ X, Since w52 X → X.cell? ⟨W42.heap.size, 1, none⟩ = some (.slice Xx1 x.before.length xzx1) := have_cell (by rw [hw5]; simp)
  have xx2 : ∀ X, Since w52 X → X.cell? ⟨W42.heap.size, 2, none⟩ = some (.slice Xx2 x.now.length xzx2) := have_cell (by rw [hw5]; simp)
  have xx3 : ∀ X, Since w52 X → X.cell? ⟨W42.heap.size, 3, none⟩ = some (.slice Xx3 x.slots.length xzx3) := have_cell (by rw [hw5]; simp)
  have xx4 : ∀ X, Since w52 X → X.cell? ⟨W42.heap.size, 4, none⟩ = some (.slice Xx4 x.flight.length xzx4) := have_cell (by rw [hw5]; simp)
  rw [← hw5] at hs'
  replace hx0 : Since w50 w52 := (Since.trans hx0 hb).after h45
  replace hx1 : Since w51 w52 := (Since.trans hx1 hb).after h45
  have hx2 : Since w52 w52 := since_refl _
  have hso : Since w0 W42 := hs.trans hb
  have Hw5 := Lib.hid hw5
  clear hw5 hb hN h45
  replace hs := hso
  clear hso
  have hsq := hs'
  rw [Hw5.out] at hsq
  have hxq0 := hx0
  rw [Hw5.out] at hxq0
  have hxq1 := hx1
  rw [Hw5.out] at hxq1
  go_wp2_with fail
  rw [← Hw5.out]
  clear hs hsq Hw5 hxq0 hxq1
  have hs := hs'
  clear hs'
  refine (fnExactFirstAsyncFault_impl _ _ _ _ _ _ _ _ _ _ _ _ m n x _ (HXm.out _ hx0) (HXn.out _ hx1) (HXx.out _ hx2) Hszm.out Hszn.out Hszx.out).mono ?_
  rintro e W6 ⟨rfl, hb8⟩
  replace hs : Since w0 W6 := hs.trans hb8
  replace hx0 : Since w50 W6 := Since.trans hx0 hb8
  replace hx1 : Since w51 W6 := Since.trans hx1 hb8
  replace hx2 : Since w52 W6 := Since.trans hx2 hb8
  clear hb8
  go_upto_region 18 with (fail)
  have r0 := lift_cell xm0 hx0
  have g0 := lift_cell pm0 hs
  have r1 := lift_cell xm1 hx0
  have g1 := lift_cell pm1 hs
  have r2 := lift_cell xm2 hx0
  have g2 := lift_cell pm2 hs
  have r3 := lift_cell xm3 hx0
  have g3 := lift_cell pm3 hs
  have r4 := lift_cell xm4 hx0
  have g4 := lift_cell pm4 hs
  have r5 := lift_cell xm5 hx0
  have g5 := lift_cell pm5 hs
  have r6 := lift_cell xm6 hx0
  have g6 := lift_cell pm6 hs
  have Hs := Lib.hid hs
  clear hs
  have Hx0 := Lib.hid hx0
  clear hx0
  have Hx1 := Lib.hid hx1
  clear hx1
  have Hx2 := Lib.hid hx2
  clear hx2
  have Zxm0 := Lib.hid xm0
  clear xm0
  have Zxm1 := Lib.hid xm1
  clear xm1
  have Zxm2 := Lib.hid xm2
  clear xm2
  have Zxm3 := Lib.hid xm3
  clear xm3
  have Zxm4 := Lib.hid xm4
  clear xm4
  have Zxm5 := Lib.hid xm5
  clear xm5
  have Zxm6 := Lib.hid xm6
  clear xm6
  have Zpm0 := Lib.hid pm0
  clear pm0
  have Zpm1 := Lib.hid pm1
  clear pm1
  have Zpm2 := Lib.hid pm2
  clear pm2
  have Zpm3 := Lib.hid pm3
  clear pm3
  have Zpm4 := Lib.hid pm4
  clear pm4
  have Zpm5 := Lib.hid pm5
  clear pm5
  have Zpm6 := Lib.hid pm6
  clear pm6
  have Zxn0 := Lib.hid xn0
  clear xn0
  have Zxn1 := Lib.hid xn1
  clear xn1
  have Zxn2 := Lib.hid xn2
  clear xn2
  have Zpn0 := Lib.hid pn0
  clear pn0
  have Zpn1 := Lib.hid pn1
  clear pn1
  have Zpn2 := Lib.hid pn2
  clear pn2
  have Zxx0 := Lib.hid xx0
  clear xx0
  have Zxx1 := Lib.hid xx1
  clear xx1
  have Zxx2 := Lib.hid xx2
  clear xx2
  have Zxx3 := Lib.hid xx3
  clear xx3
  have Zxx4 := Lib.hid xx4
  clear xx4
  have Zpx0 := Lib.hid px0
  clear px0
  have Zpx1 := Lib.hid px1
  clear px1
  have Zpx2 := Lib.hid px2
  clear px2
  have Zpx3 := Lib.hid px3
  clear px3
  have Zpx4 := Lib.hid px4
  clear px4
  refine wp_region_one (w0 := W6) 2 rfl (fun W u => ∃ a b c d, u = .agg #[.int .i64 m.degree, .int .i64 m.states, .int .i64 m.messages, a, b, c, d] ∧ MacIn W a b c d m) (fun W W' u h hs => by obtain ⟨a, b, c, d, rfl, h⟩ := h; exact ⟨a, b, c, d, rfl, h.keep hs⟩) (by kernel_rfl) (by kernel_rfl) (by kernel_rfl) (by simp) (since_refl _) ?_
  simp only [List.take_succ_cons, List.take_zero, List.drop_succ_cons, List.drop_zero]
  refine pflow_val (v := ?_) rfl ?_ ?_; rotate_left; (intro W hW; go_simp; with_reducible rfl)
  simp only [Act.put, List.setIfInBounds_toArray, List.set_cons_succ, List.set_cons_zero]
  refine pflow_val (v := ?_) rfl ?_ ?_; rotate_left; (intro W hW; go_simp; with_reducible rfl)
  simp only [Act.put, List.setIfInBounds_toArray, List.set_cons_succ, List.set_cons_zero]
  refine ⟨⟨rfl, fun W hW => ?_⟩, fun u => ?_⟩
  · unfold GivesAny
    go_simp
    refine (toMachine_any _ _ _ _  m W ((fun W hW => HAm.out W (Hs.out.after hW)) W hW) Hszm.out).mono ?_
    rintro e W' ⟨a, b, c, d, rfl, ho, hb⟩
    exact ⟨_, rfl, ⟨a, b, c, d, rfl, ho⟩, hb⟩
  simp only [Act.put, List.setIfInBounds_toArray, List.set_cons_succ, List.set_cons_zero]
  (try simp only [List.getElem_toArray, List.getElem_cons_succ, List.getElem_cons_zero])
  (try simp only [Act.put, List.setIfInBounds_toArray, List.set_cons_succ, List.set_cons_zero])
  refine flow_op (.bool true) rfl (fun W hW => ?_) ?_
  · have hS := hW.1
    have hR := Lib.hid hW.2
    clear hW
    unfold Gives
    go_simp
    obtain ⟨a, b, c, d, hu, hN⟩ := hR.out
    rw [hu]
    refine (eqMachine_same _ _ _ _ _ _ _ _  m W ((fun W hW => HXm.out W (Hx0.out.after hW)) W hS) hN).mono ?_
    rintro e W' ⟨rfl, hb⟩
    exact ⟨rfl, hS.trans hb, a, b, c, d, rfl, hN.keep hb⟩
  simp only [Act.put, List.setIfInBounds_toArray, List.set_cons_succ, List.set_cons_zero]
  refine flow_val (v := .bool false) rfl (fun W hW => by go_simp) ?_
  simp only [Act.put, List.setIfInBounds_toArray, List.set_cons_succ, List.set_cons_zero]
  intro W90 hW9 _
  clear r0 g0 r1 g1 r2 g2 r3 g3 r4 g4 r5 g5 r6 g6
  have hs := Since.after Hs.out hW9
  clear Hs
  have hx1 := Since.after Hx1.out hW9
  clear Hx1
  have hx2 := Since.after Hx2.out hW9
  clear Hx2
  clear Hx0 hW9
  have xn0 := Zxn0.out
  clear Zxn0
  have xn1 := Zxn1.out
  clear Zxn1
  have xn2 := Zxn2.out
  clear Zxn2
  have pn0 := Zpn0.out
  clear Zpn0
  have pn1 := Zpn1.out
  clear Zpn1
  have pn2 := Zpn2.out
  clear Zpn2
  have xx0 := Zxx0.out
  clear Zxx0
  have xx1 := Zxx1.out
  clear Zxx1
  have xx2 := Zxx2.out
  clear Zxx2
  have xx3 := Zxx3.out
  clear Zxx3
  have xx4 := Zxx4.out
  clear Zxx4
  have px0 := Zpx0.out
  clear Zpx0
  have px1 := Zpx1.out
  clear Zpx1
  have px2 := Zpx2.out
  clear Zpx2
  have px3 := Zpx3.out
  clear Zpx3
  have px4 := Zpx4.out
  clear Zpx4
  go_upto_region 20 with (fail)
  have r0 := lift_cell xn0 hx1
  have g0 := lift_cell pn0 hs
  have r1 := lift_cell xn1 hx1
  have g1 := lift_cell pn1 hs
  have r2 := lift_cell xn2 hx1
  have g2 := lift_cell pn2 hs
  have Hs := Lib.hid hs
  clear hs
  have Hx1 := Lib.hid hx1
  clear hx1
  have Hx2 := Lib.hid hx2
  clear hx2
  have Zxn0 := Lib.hid xn0
  clear xn0
  have Zxn1 := Lib.hid xn1
  clear xn1
  have Zxn2 := Lib.hid xn2
  clear xn2
  have Zpn0 := Lib.hid pn0
  clear pn0
  have Zpn1 := Lib.hid pn1
  clear pn1
  have Zpn2 := Lib.hid pn2
  clear pn2
  have Zxx0 := Lib.hid xx0
  clear xx0
  have Zxx1 := Lib.hid xx1
  clear xx1
  have Zxx2 := Lib.hid xx2
  clear xx2
  have Zxx3 := Lib.hid xx3
  clear xx3
  have Zxx4 := Lib.hid xx4
  clear xx4
  have Zpx0 := Lib.hid px0
  clear px0
  have Zpx1 := Lib.hid px1
  clear px1
  have Zpx2 := Lib.hid px2
  clear px2
  have Zpx3 := Lib.hid px3
  clear px3
  have Zpx4 := Lib.hid px4
  clear px4
  refine wp_region_one (w0 := W90) 2 rfl (fun W u => ∃ a b c, u = .agg #[a, b, c] ∧ NetIn W a b c n) (fun W W' u h hs => by obtain ⟨a, b, c, rfl, h⟩ := h; exact ⟨a, b, c, rfl, h.keep hs⟩) (by kernel_rfl) (by kernel_rfl) (by kernel_rfl) (by simp) (since_refl _) ?_
  simp only [List.take_succ_cons, List.take_zero, List.drop_succ_cons, List.drop_zero]
  refine pflow_val (v := ?_) rfl ?_ ?_; rotate_left; (intro W hW; go_simp; with_reducible rfl)
  simp only [Act.put, List.setIfInBounds_toArray, List.set_cons_succ, List.set_cons_zero]
  refine pflow_val (v := ?_) rfl ?_ ?_; rotate_left; (intro W hW; go_simp; with_reducible rfl)
  simp only [Act.put, List.setIfInBounds_toArray, List.set_cons_succ, List.set_cons_zero]
  refine ⟨⟨rfl, fun W hW => ?_⟩, fun u => ?_⟩
  · unfold GivesAny
    go_simp
    refine (toNetwork_any _ _ _  n W ((fun W hW => HAn.out W (Hs.out.after hW)) W hW) Hszn.out).mono ?_
    rintro e W' ⟨a, b, c, S, rfl, ho, hb⟩
    exact ⟨_, rfl, ⟨a, b, c, rfl, ho.read⟩, hb⟩
  simp only [Act.put, List.setIfInBounds_toArray, List.set_cons_succ, List.set_cons_zero]
  (try simp only [List.getElem_toArray, List.getElem_cons_succ, List.getElem_cons_zero])
  (try simp only [Act.put, List.setIfInBounds_toArray, List.set_cons_succ, List.set_cons_zero])
  refine flow_op (.bool true) rfl (fun W hW => ?_) ?_
  · have hS := hW.1
    have hR := Lib.hid hW.2
    clear hW
    unfold Gives
    go_simp
    obtain ⟨a, b, c, hu, hN⟩ := hR.out
    rw [hu]
    refine (eqNetwork_same _ _ _ _ _ _  n W ((fun W hW => HXn.out W (Hx1.out.after hW)) W hS) hN).mono ?_
    rintro e W' ⟨rfl, hb⟩
    exact ⟨rfl, hS.trans hb, a, b, c, rfl, hN.keep hb⟩
  simp only [Act.put, List.setIfInBounds_toArray, List.set_cons_succ, List.set_cons_zero]
  refine flow_val (v := .bool false) rfl (fun W hW => by go_simp) ?_
  simp only [Act.put, List.setIfInBounds_toArray, List.set_cons_succ, List.set_cons_zero]
  intro W91 hW9 _
  clear r0 g0 r1 g1 r2 g2
  have hs := Since.after Hs.out hW9
  clear Hs
  have hx2 := Since.after Hx2.out hW9
  clear Hx2
  clear Hx1 hW9
  have xx0 := Zxx0.out
  clear Zxx0
  have xx1 := Zxx1.out
  clear Zxx1
  have xx2 := Zxx2.out
  clear Zxx2
  have xx3 := Zxx3.out
  clear Zxx3
  have xx4 := Zxx4.out
  clear Zxx4
  have px0 := Zpx0.out
  clear Zpx0
  have px1 := Zpx1.out
  clear Zpx1
  have px2 := Zpx2.out
  clear Zpx2
  have px3 := Zpx3.out
  clear Zpx3
  have px4 := Zpx4.out
  clear Zpx4
  go_upto_region 22 with (fail)
  have r0 := lift_cell xx0 hx2
  have g0 := lift_cell px0 hs
  have r1 := lift_cell xx1 hx2
  have g1 := lift_cell px1 hs
  have r2 := lift_cell xx2 hx2
  have g2 := lift_cell px2 hs
  have r3 := lift_cell xx3 hx2
  have g3 := lift_cell px3 hs
  have r4 := lift_cell xx4 hx2
  have g4 := lift_cell px4 hs
  have Hs := Lib.hid hs
  clear hs
  have Hx2 := Lib.hid hx2
  clear hx2
  have Zxx0 := Lib.hid xx0
  clear xx0
  have Zxx1 := Lib.hid xx1
  clear xx1
  have Zxx2 := Lib.hid xx2
  clear xx2
  have Zxx3 := Lib.hid xx3
  clear xx3
  have Zxx4 := Lib.hid xx4
  clear xx4
  have Zpx0 := Lib.hid px0
  clear px0
  have Zpx1 := Lib.hid px1
  clear px1
  have Zpx2 := Lib.hid px2
  clear px2
  have Zpx3 := Lib.hid px3
  clear px3
  have Zpx4 := Lib.hid px4
  clear px4
  refine wp_region_one (w0 := W91) 2 rfl (fun W u => ∃ a b c d f, u = .agg #[a, b, c, d, f] ∧ AsIn W a b c d f x) (fun W W' u h hs => by obtain ⟨a, b, c, d, f, rfl, h⟩ := h; exact ⟨a, b, c, d, f, rfl, h.keep hs⟩) (by kernel_rfl) (by kernel_rfl) (by kernel_rfl) (by simp) (since_refl _) ?_
  simp only [List.take_succ_cons, List.take_zero, List.drop_succ_cons, List.drop_zero]
  refine pflow_val (v := ?_) rfl ?_ ?_; rotate_left; (intro W hW; go_simp; with_reducible rfl)
  simp only [Act.put, List.setIfInBounds_toArray, List.set_cons_succ, List.set_cons_zero]
  refine pflow_val (v := ?_) rfl ?_ ?_; rotate_left; (intro W hW; go_simp; with_reducible rfl)
  simp only [Act.put, List.setIfInBounds_toArray, List.set_cons_succ, List.set_cons_zero]
  refine ⟨⟨rfl, fun W hW => ?_⟩, fun u => ?_⟩
  · unfold GivesAny
    go_simp
    refine (toAsyncState_any _ _ _ _ _  x W ((fun W hW => HAx.out W (Hs.out.after hW)) W hW) Hszx.out).mono ?_
    rintro e W' ⟨a, b, c, d, f, rfl, ho, hb⟩
    exact ⟨_, rfl, ⟨a, b, c, d, f, rfl, ho⟩, hb⟩
  simp only [Act.put, List.setIfInBounds_toArray, List.set_cons_succ, List.set_cons_zero]
  (try simp only [List.getElem_toArray, List.getElem_cons_succ, List.getElem_cons_zero])
  (try simp only [Act.put, List.setIfInBounds_toArray, List.set_cons_succ, List.set_cons_zero])
  refine flow_op (.bool true) rfl (fun W hW => ?_) ?_
  · have hS := hW.1
    have hR := Lib.hid hW.2
    clear hW
    unfold Gives
    go_simp
    obtain ⟨a, b, c, d, f, hu, hN⟩ := hR.out
    rw [hu]
    refine (eqAsyncState_same _ _ _ _ _ _ _ _ _ _  x W ((fun W hW => HXx.out W (Hx2.out.after hW)) W hS) hN).mono ?_
    rintro e W' ⟨rfl, hb⟩
    exact ⟨rfl, hS.trans hb, a, b, c, d, f, rfl, hN.keep hb⟩
  simp only [Act.put, List.setIfInBounds_toArray, List.set_cons_succ, List.set_cons_zero]
  refine flow_val (v := .bool false) rfl (fun W hW => by go_simp) ?_
  simp only [Act.put, List.setIfInBounds_toArray, List.set_cons_succ, List.set_cons_zero]
  intro W92 hW9 _
  clear r0 g0 r1 g1 r2 g2 r3 g3 r4 g4
  have hs := Since.after Hs.out hW9
  clear Hs
  clear Hx2 hW9
  go_wp2_with fail
  go_ret
  exact ⟨rfl, Since.after Hb0.out hs⟩
end Go.Proofs.YtlfehdikgbgloaaGreat
