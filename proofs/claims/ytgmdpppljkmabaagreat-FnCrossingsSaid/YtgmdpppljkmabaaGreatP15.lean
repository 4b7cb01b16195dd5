/- Parts of the proof: walks of functions and plain laws. -/
import Derived.Test.YtgmdpppljkmabaaGreatP0
import Derived.Test.YtgmdpppljkmabaaGreatP12
import Derived.Test.YtgmdpppljkmabaaGreatP14
import Derived.Test.YtgmdpppljkmabaaGreatP6
import Derived.Test.YtgmdpppljkmabaaGreatP3
import Derived.Test.YtgmdpppljkmabaaGreatP5
namespace Go.Proofs.YtgmdpppljkmabaaGreat
open Go.RowKit
theorem store_endL {ops : Array Oper} {rest : List Oper} {o : Oper} {a : Act} {Q : Exit → Act → World → Prop} {w : World} (hgd : o.guard = none) (p x : Operand) (ho : o.op = .store 83 p x) (b i : Nat) (u v : Int) (hp : a.eval p = .pointer (some ⟨b, i, none⟩)) (hx : a.eval x = .agg #[.int .i64 u, .int .i64 v])
  {z z' : Value} (c0 : w.cell? ⟨b, i, none⟩ = some z) (c1 : w.cell? ⟨b, i + 1, none⟩ = some z') (f0 : w.frozen? ⟨b, i, none⟩ = false) (f1 : w.frozen? ⟨b, i + 1, none⟩ = false)
  (k : ∀ w', w' = (w.setCell ⟨b, i, none⟩ (.int .i64 u)).setCell ⟨b, i + 1, none⟩ (.int .i64 v) → wpList Tryz.prog ops Q rest (a.put o.dst undef) w') : wpList Tryz.prog ops Q (o :: rest) a w := by
 refine wpList_plain hgd fun K hK => ?_
 have hk := hK _ _ (k _ rfl)
 unfold Oper.wp
 simp only [execOp, ho, hp, hx]
 go_simp
 first | exact hk | (cases h : o.dst <;> simp [h] at hk ⊢ <;> exact hk)
theorem load_netL {ops : Array Oper} {rest : List Oper} {o : Oper} {a : Act} {Q : Exit → Act → World → Prop} {w : World} (hgd : o.guard = none) (p : Operand) (ho : o.op = .load 27 p) (b : Nat) {x y z : Value} (hp : a.eval p = .pointer (some ⟨b, 0, none⟩)) (hb : BoxN w b x y z)
  (k : wpList Tryz.prog ops Q rest (a.put o.dst (.agg #[x, y, z])) w) : wpList Tryz.prog ops Q (o :: rest) a w := by
 obtain ⟨c0, c1, c2, _, _, _⟩ := hb.box.cells
 refine wpList_plain hgd fun K hK => ?_
 have hk := hK _ _ k
 unfold Oper.wp
 simp only [execOp, ho, hp]
 go_simp
 exact hk
theorem store_netL {ops : Array Oper} {rest : List Oper} {o : Oper} {a : Act} {Q : Exit → Act → World → Prop} {w : World} (hgd : o.guard = none) (p q : Operand) (ho : o.op = .store 27 p q) (hd : o.dst = none) (b : Nat) {x y z : Value} {A1 A2 A3 : Option Addr} {l1 l2 l3 c1' c2' c3' : Nat} (hp : a.eval p = .pointer (some ⟨b, 0, none⟩)) (hq : a.eval q = .agg #[.slice A1 l1 c1', .slice A2 l2 c2', .slice A3 l3 c3']) (hb : BoxN w b x y z)
  (k : ∀ w', w' = ((w.setCell ⟨b, 0, none⟩ (.slice A1 l1 c1')).setCell ⟨b, 1, none⟩ (.slice A2 l2 c2')).setCell ⟨b, 2, none⟩ (.slice A3 l3 c3') → wpList Tryz.prog ops Q rest a w') : wpList Tryz.prog ops Q (o :: rest) a w := by
 obtain ⟨c0, c1, c2, f0, f1, f2⟩ := hb.box.cells
 refine wpList_plain hgd fun K hK => ?_
 have hk := hK _ _ (k _ rfl)
 unfold Oper.wp
 simp only [execOp, ho, hp, hq]
 go_simp
 first | exact hk | (simp [hd, Act.put] at hk ⊢; exact hk)
theorem cg2 {n : Net} {v i x j : Int} (h : (!netOk n || !hasPortB n.ends v i || !hasPortB n.ends x j) = false) : hasPortB n.ends v i = true ∧ hasPortB n.ends x j = true := by
 simp only [Bool.or_eq_false_iff, Bool.not_eq_false'] at h
 exact ⟨h.1.2, h.2⟩
set_option maxRecDepth 100000 in
set_option maxHeartbeats 16000000 in
theorem fnExactCrossEdges_impl (ve vi vn : Value) (n : Net) (v i x j : Int) (w : World) (h : NetIn w ve vi vn n) (_ : -9223372036854775808 ≤ v ∧ v ≤ 9223372036854775807) (_ : -9223372036854775808 ≤ i ∧ i ≤ 9223372036854775807) (_ : -9223372036854775808 ≤ x ∧ x ≤ 9223372036854775807) (_ : -9223372036854775808 ≤ j ∧ j ≤ 9223372036854775807) (hsz : szNet n ≤ 1048576) :
  Calls Tryz.prog 13 #[.agg #[ve, vi, vn], .int .i64 v, .int .i64 i, .int .i64 x, .int .i64 j] w (NewNetB w (fnExactCrossEdges_d n v i x j) (fnExactCrossEdges_r1 n v i x j)) := by
 have Hsz := Lib.hid hsz
 clear hsz
 obtain ⟨w0, hw0⟩ : ∃ w0, w0 = (w).alloc (.cells #[ve, vi, vn] 27) := ⟨_, rfl⟩
 have hb0 : Below w.heap.size w w0 := by rw [hw0]; exact ((Below.refl _ _).alloc (by simp) _)
 have H := Lib.hid (h.keep hb0)
 obtain ⟨h1, h2, h3⟩ := h.keep hb0
 obtain ⟨A, c, rfl, hlc, hm, hA⟩ := h1
 obtain ⟨A2, c2, rfl, _, hm2, _⟩ := h2
 obtain ⟨A3, c3, rfl, _, hm3, _⟩ := h3
 unfold maxLen at hm hm2 hm3
 have p00 : ∀ W, Since w0 W → W.cell? ⟨w.heap.size, 0, none⟩ = some (.slice A n.ends.length c) := have_cell (by rw [hw0]; simp)
 have p01 : ∀ W, Since w0 W → W.cell? ⟨w.heap.size, 1, none⟩ = some (.slice A2 n.ids.length c2) := have_cell (by rw [hw0]; simp)
 have p02 : ∀ W, Since w0 W → W.cell? ⟨w.heap.size, 2, none⟩ = some (.slice A3 n.inputs.length c3) := have_cell (by rw [hw0]; simp)
 have Hb0 := Lib.hid hb0
 have Hw0 := Lib.hid hw0
 have HA := Lib.hid hA
 clear hA h
 clear hb0 hw0
 obtain ⟨wa, hwa⟩ : ∃ wa, wa = w0.alloc (.cells #[.slice none 0 0, .slice none 0 0, .slice none 0 0] 27) := ⟨_, rfl⟩
 have hsa : Since w0 wa := by rw [hwa]; exact since_alloc _ (since_refl _)
 have h01 : w0.heap.size = w.heap.size + 1 := by rw [Hw0.out]; simp
 have Hza : Hid (wa.heap.size = w.heap.size + 1 + 1) := by show _ = _; rw [hwa, ← h01]; simp
 have HRb : Hid (∀ X, Since wa X → BoxN X (w.heap.size + 1) (.slice none 0 0) (.slice none 0 0) (.slice none 0 0)) := fun X hX => by
  refine BoxN.since (W := wa) ?_ hX
  rw [hwa, ← h01]
  show (w0.heap.push _)[w0.heap.size]? = _
  rw [Array.getElem?_push_size]
 clear h01
 have q00 := lift_cell p00 hsa
 have q01 := lift_cell p01 hsa
 have q02 := lift_cell p02 hsa
 have H' := Lib.hid (H.out.keep hsa.below)
 have Hwa := Lib.hid hwa
 have Hsa := Lib.hid hsa
 have h00 : Since wa wa := since_refl _
 clear hwa hsa p00 p01 p02
 go_enter Tryz.func13, Tryz.ntmps13
 go_upto_region 1 with (fail)
 rw [← Hw0.out, ← Hwa.out]
 go_upto_region 2 with (fail)
 obtain ⟨wb, hwb⟩ : ∃ wb, wb = (wa.alloc (.cells #[.int .i64 v, .int .i64 i] 83)).alloc (.cells #[.int .i64 x, .int .i64 j] 83) := ⟨_, rfl⟩
 rw [← hwb]
 have hab : Since wa wb := by rw [hwb]; exact since_alloc _ (since_alloc _ (since_refl _))
 have x0 : ∀ X, Since wb X → X.cell? ⟨wa.heap.size, 0, none⟩ = some (.int .i64 v) := have_cell (by rw [hwb]; simp)
 have x1 : ∀ X, Since wb X → X.cell? ⟨wa.heap.size, 1, none⟩ = some (.int .i64 i) := have_cell (by rw [hwb]; simp)
 have y0 : ∀ X, Since wb X → X.cell? ⟨wa.heap.size + 1, 0, none⟩ = some (.int .i64 x) := have_cell (by rw [hwb]; simp)
 have y1 : ∀ X, Since wb X → X.cell? ⟨wa.heap.size + 1, 1, none⟩ = some (.int .i64 j) := have_cell (by rw [hwb]; simp)
 have s00 := lift_cell q00 hab
 have s01 := lift_cell q01 hab
 have s02 := lift_cell q02 hab
 have Hn' := Lib.hid (H'.out.keep hab.below)
 have Hab := Lib.hid hab
 have hbb : Since wb wb := since_refl _
 have Hil : Hid (n.ids.length ≤ 17592186044416) := by show _ ≤ _; have := Hsz.out; unfold szNet at this; omega
 clear hwb hab q00 q01 q02 h00
 refine wp_region_flow0 24 (Since wb) (hbb) ?_
 simp only [List.take_succ_cons, List.take_zero, List.drop_succ_cons, List.drop_zero]
 refine flow_val (v := ?_) rfl ?_ ?_; rotate_left; (intro W hW; go_simp; with_reducible rfl)
 simp only [zA]
 refine flow_op ?_ rfl ?_ ?_; rotate_left; (intro W hW; unfold Gives; go_simp; (with_reducible refine (isNetwork_any _ _ _ n W (Hn'.out.keep hW.below) Hil.out).mono ?_); rintro e W' ⟨rfl, hb3⟩; first | (refine ⟨?_, Since.trans hW hb3⟩; with_reducible rfl) | (subst hb3; refine ⟨?_, hW⟩; with_reducible rfl))
 simp only [zA]
 refine flow_val (v := ?_) rfl ?_ ?_; rotate_left; (intro W hW; go_simp; with_reducible rfl)
 simp only [zA]
 refine flow_val (v := ?_) rfl ?_ ?_; rotate_left; (intro W hW; go_simp; with_reducible rfl)
 simp only [zA]
 refine flow_gval (v := ?_) rfl rfl ?_ ?_; rotate_left; (intro hb; intro W hW; go_simp; with_reducible rfl)
 simp only [zA]
 refine flow_gval (v := ?_) rfl rfl ?_ ?_; rotate_left; (intro hb; intro W hW; go_simp; with_reducible rfl)
 simp only [zA]
 refine flow_gval (v := ?_) rfl rfl ?_ ?_; rotate_left; (intro hb; intro W hW; go_simp; with_reducible rfl)
 simp only [zA]
 refine flow_gop (v := ?_) rfl rfl ?_ ?_; rotate_left; (intro hb; intro W hW; unfold Gives; go_simp; (with_reducible refine (hasPort_any _ _ _ n.ends _ _ W (Hn'.out.keep hW.below).es).mono ?_); rintro e W' ⟨rfl, hb3⟩; first | (refine ⟨?_, Since.trans hW hb3⟩; with_reducible rfl) | (subst hb3; refine ⟨?_, hW⟩; with_reducible rfl))
 simp only [zA]
 refine flow_gval (v := ?_) rfl rfl ?_ ?_; rotate_left; (intro hb; intro W hW; go_simp; with_reducible rfl)
 simp only [zA]
 first | refine flow_or rfl rfl ?_ | (refine flow_val (v := ?_) rfl ?_ ?_; rotate_left; (intro W hW; go_simp; with_reducible rfl))
 simp only [zA]
 refine flow_val (v := ?_) rfl ?_ ?_; rotate_left; (intro W hW; go_simp; with_reducible rfl)
 simp only [zA]
 refine flow_gval (v := ?_) rfl rfl ?_ ?_; rotate_left; (intro hb; intro W hW; go_simp; with_reducible rfl)
 simp only [zA]
 refine flow_gval (v := ?_) rfl rfl ?_ ?_; rotate_left; (intro hb; intro W hW; go_simp; with_reducible rfl)
 simp only [zA]
 refine flow_gval (v := ?_) rfl rfl ?_ ?_; rotate_left; (intro hb; intro W hW; go_simp; with_reducible rfl)
 simp only [zA]
 refine flow_gop (v := ?_) rfl rfl ?_ ?_; rotate_left; (intro hb; intro W hW; unfold Gives; go_simp; (with_reducible refine (hasPort_any _ _ _ n.ends _ _ W (Hn'.out.keep hW.below).es).mono ?_); rintro e W' ⟨rfl, hb3⟩; first | (refine ⟨?_, Since.trans hW hb3⟩; with_reducible rfl) | (subst hb3; refine ⟨?_, hW⟩; with_reducible rfl))
 simp only [zA]
 refine flow_gval (v := ?_) rfl rfl ?_ ?_; rotate_left; (intro hb; intro W hW; go_simp; with_reducible rfl)
 simp only [zA]
 first | refine flow_or rfl rfl ?_ | (refine flow_val (v := ?_) rfl ?_ ?_; rotate_left; (intro W hW; go_simp; with_reducible rfl))
 simp only [zA]
 refine flow_val (v := ?_) rfl ?_ ?_; rotate_left; (intro W hW; go_simp; with_reducible rfl)
 simp only [zA]
 refine flow_gval (v := ?_) rfl rfl ?_ ?_; rotate_left; (intro hb; intro W hW; go_simp; with_reducible rfl)
 simp only [zA]
 refine flow_gval (v := ?_) rfl rfl ?_ ?_; rotate_left; (intro hb; intro W hW; go_simp; with_reducible rfl)
 simp only [zA]
 refine flow_gval (v := ?_) rfl rfl ?_ ?_; rotate_left; (intro hb; intro W hW; go_simp; with_reducible rfl)
 simp only [zA]
 refine flow_gop (v := ?_) rfl rfl ?_ ?_; rotate_left; (intro hb; intro W hW; unfold Gives; go_simp; (with_reducible refine (canCross_any _ _ _ n v i x j W (Hn'.out.keep hW.below) (cg2 hb).1 (cg2 hb).2).mono ?_); rintro e W' ⟨rfl, hb3⟩; first | (refine ⟨?_, Since.trans hW hb3⟩; with_reducible rfl) | (subst hb3; refine ⟨?_, hW⟩; with_reducible rfl))
 simp only [zA]
 refine flow_gval (v := ?_) rfl rfl ?_ ?_; rotate_left; (intro hb; intro W hW; go_simp; with_reducible rfl)
 simp only [zA]
 first | refine flow_or rfl rfl ?_ | (refine flow_val (v := ?_) rfl ?_ ?_; rotate_left; (intro W hW; go_simp; with_reducible rfl))
 simp only [zA]
 intro W hW
 cases hg : (!netOk n || !hasPortB n.ends v i || !hasPortB n.ends x j || !mayB n.ends (v, i) (x, j))
 ·have hok : crossEOk n v i x j = true := by
   simp only [Bool.or_eq_false_iff, Bool.not_eq_false'] at hg
   simp [crossEOk, hg]
  have Hok := Lib.hid hok
  have HW := Lib.hid hW
  obtain ⟨hn, hp, hq, -⟩ := ce_ok hok
  obtain ⟨hbp, -⟩ := netOk_end hn hp
  obtain ⟨hbq, -⟩ := netOk_end hn hq
  have HnO := Lib.hid hn
  clear hok hg hn
  go_wp2_with fail
  refine (copyNetwork_any _ _ _ n W (Hn'.out.keep HW.out.below) HnO.out Hsz.out).mono ?_
  rintro e w2 ⟨ue, ui, un, S, rfl, hon, hb2⟩
  obtain ⟨AE, cE, hvE, _⟩ := id hon.read.1
  obtain ⟨AI, cI, rfl, _⟩ := id hon.read.2.1
  obtain ⟨AN, cN, rfl, _⟩ := id hon.read.2.2
  subst hvE
  have hlen : 0 < n.ends.length := (netOk_len HnO.out).1
  obtain ⟨g, hg⟩ : ∃ g, AE = some ⟨g, 0, none⟩ := by
   obtain ⟨S1, S2, S3, ⟨vs, Ss, h1, _⟩, _⟩ := hon
   rcases ownsRow_cases h1 with ⟨h0, h0'⟩ | ⟨g, cc, h0, _⟩
   ·omega
   ·cases h0; exact ⟨g, rfl⟩
  subst hg
  go_upto_region 5 with (fail)
  obtain ⟨wc, hwc⟩ : ∃ wc, wc = w2.alloc (.cells #[.slice (some ⟨g, 0, none⟩) n.ends.length cE, .slice AI n.ids.length cI, .slice AN n.inputs.length cN] 27) := ⟨_, rfl⟩
  rw [← hwc]
  obtain ⟨ob, hob⟩ : ∃ ob, ob = w2.heap.size := ⟨_, rfl⟩
  rw [← hob]
  have hs2c : Since w2 wc := by rw [hwc]; exact since_alloc _ (since_refl _)
  have hsc : Since wb wc := (Since.trans hW hb2).after hs2c
  have hbx : BoxN wc ob (.slice (some ⟨g, 0, none⟩) n.ends.length cE) (.slice AI n.ids.length cI) (.slice AN n.inputs.length cN) := by
   rw [hwc, hob]
   show (w2.heap.push _)[w2.heap.size]? = _
   rw [Array.getElem?_push_size]
  have HBx := Lib.hid hbx
  have HC := Lib.hid ((hon.keep hs2c.below).mono HW.out.below.size)
  have HrS := Lib.hid (fun j hj => (hon.range j hj).2)
  have Hob := Lib.hid hob
  have Hs2c := Lib.hid hs2c
  have Hsc := Lib.hid hsc
  have r00 := lift_cell s00 hsc
  have Hc := Lib.hid (Hn'.out.keep hsc.below)
  have hcc : Since wc wc := since_refl _
  obtain ⟨k1, j1, b, off, c', b1, off1, z1, es1, y1', y2', rfl, rfl, hA, hk1, -, hj1, -, hat1, hz1, hz1', hc1, hc2, hc3⟩ := port_at Hc.out.es hp
  cases hA
  obtain ⟨k2, j2, b', off', c', b2, off2, z2, es2, y3, y4, rfl, rfl, hA, hk2, -, hj2, -, hat2, hz2, hz2', hc4, hc5, hc6⟩ := port_at Hc.out.es hq
  cases hA
  have r1 := have_cell hc1
  have r2 := have_cell hc2
  have r3 := have_cell hc3
  have r4 := have_cell hc4
  have r5 := have_cell hc5
  have r6 := have_cell hc6
  have Hat1 := Lib.hid hat1
  have Hat2 := Lib.hid hat2
  have HXY := Lib.hid (And.intro x0 (And.intro x1 (And.intro y0 y1)))
  clear hc1 hc2 hc3 hc4 hc5 hc6 hat1 hat2 hwc hob hbx hon hb2 hs2c hsc s00 s01 s02 hW hbb x0 x1 y0 y1
  refine wp_region_two2 (w0 := wc) 16 15 16 57 65 83 y1' y2' y3 y4 (by kernel_rfl) (by kernel_rfl) rfl (hcc) ⟨_, _, _, rfl⟩ ⟨_, _, _, rfl⟩ ⟨_, _, _, rfl⟩ ⟨_, _, _, rfl⟩ (by decide) (by simp) (by simp) end_zero end_store ?_
  simp only [List.take_succ_cons, List.take_zero]
  refine pflow_val (v := ?_) rfl ?_ ?_; rotate_left; (intro W hW; go_simp; with_reducible rfl)
  simp only [zA]
  refine pflow_val (v := ?_) rfl ?_ ?_; rotate_left; (intro W hW; go_simp; with_reducible rfl)
  simp only [zA]
  refine pflow_val (v := ?_) rfl ?_ ?_; rotate_left; (intro W hW; go_simp; with_reducible rfl)
  simp only [zA]
  refine pflow_val (v := ?_) rfl ?_ ?_; rotate_left; (intro W hW; go_simp; with_reducible rfl)
  simp only [zA]
  refine pflow_val (v := ?_) rfl ?_ ?_; rotate_left; (intro W hW; go_simp; with_reducible rfl)
  simp only [zA]
  refine pflow_val (v := ?_) rfl ?_ ?_; rotate_left; (intro W hW; go_simp; with_reducible rfl)
  simp only [zA]
  refine pflow_val (v := ?_) rfl ?_ ?_; rotate_left; (intro W hW; go_simp; with_reducible rfl)
  simp only [zA]
  refine pflow_val (v := ?_) rfl ?_ ?_; rotate_left; (intro W hW; go_simp; with_reducible rfl)
  simp only [zA]
  refine pflow_val (v := ?_) rfl ?_ ?_; rotate_left; (intro W hW; go_simp; with_reducible rfl)
  simp only [zA]
  refine pflow_val (v := ?_) rfl ?_ ?_; rotate_left; (intro W hW; go_simp; with_reducible rfl)
  simp only [zA]
  refine pflow_val (v := ?_) rfl ?_ ?_; rotate_left; (intro W hW; go_simp; with_reducible rfl)
  simp only [zA]
  refine pflow_val (v := ?_) rfl ?_ ?_; rotate_left; (intro W hW; go_simp; with_reducible rfl)
  simp only [zA]
  refine pflow_val (v := ?_) rfl ?_ ?_; rotate_left; (intro W hW; go_simp; with_reducible rfl)
  simp only [zA]
  refine pflow_val (v := ?_) rfl ?_ ?_; rotate_left; (intro W hW; go_simp; with_reducible rfl)
  simp only [zA]
  refine pflow_val (v := ?_) rfl ?_ ?_; rotate_left; (intro W hW; go_simp; with_reducible rfl)
  simp only [zA]
  refine pflow_val (v := ?_) rfl ?_ ?_; rotate_left; (intro W hW; go_simp; with_reducible rfl)
  simp only [zA]
  refine ⟨rfl, rfl, ?_⟩
  intro b1' b2' W1 hW1 hbl1 hbl2 hE1 hE2
  simp only [zA]
  unfold ptr
  obtain ⟨ba, hba⟩ : ∃ b, b = b1' := ⟨_, rfl⟩
  obtain ⟨bb, hbb⟩ : ∃ b, b = b2' := ⟨_, rfl⟩
  subst hba hbb
  obtain ⟨x0, x1, y0, y1⟩ := HXY.out
  have Hcr : Hid (Cr wb W1 ob ba bb g cE n.ends.length (.slice AI n.ids.length cI) (.slice AN n.inputs.length cN) n S (y1', y2') (y3, y4)) :=
   ⟨HC.out.keep hW1.below, rfl, HBx.out.since hW1, hE1, hE2, ⟨fun hj => by have := HrS.out _ hj; have := Hob.out; omega, fun hj => by have := HrS.out _ hj; have := Hs2c.out.below.size; omega, fun hj => by have := HrS.out _ hj; have := Hs2c.out.below.size; omega⟩, Hsc.out.after hW1⟩
  have hbp' : hasPortB n.ends y1' y2' = true := by have := hbp; rw [Hat1.out] at this; exact this
  have hbq' : hasPortB n.ends y3 y4 = true := by have := hbq; rw [Hat2.out] at this; exact this
  clear hbp hbq
  have hbp := hbp'
  have hbq := hbq'
  clear hbp' hbq'
  obtain ⟨k3, j3, rfl, rfl⟩ := port_nat hbp
  obtain ⟨k4, j4, rfl, rfl⟩ := port_nat hbq
  have Hp := Lib.hid hp
  have Hq := Lib.hid hq
  have Hbp := Lib.hid hbp
  have Hbq := Lib.hid hbq
  clear hp hq hbp hbq hE1 hE2 hbl1 hbl2 hW1 r1 r2 r3 r4 r5 r6 r00 hcc
  go_upto_region 6 with (fail)
  have hcr := Hcr.out.drew
  obtain ⟨k, q, gr, cr, l, hk, hq, hkm, hql, hlc, hcm, c1, -, -, -, -, -, -, -, -, -⟩ := hcr.port (by first | exact Hp.out | (simp only [putEnd_port]; exact Hp.out))
  obtain rfl : k1 = k := by omega
  obtain rfl : j1 = q := by omega
  obtain ⟨kb, qb, grb, crb, lb, hkb, hqb, hkmb, hqlb, hlcb, hcmb, c1b, -, -, -, -, -, -, -, -, -⟩ := hcr.port (by first | exact Hbq.out | (simp only [putEnd_port]; exact Hbq.out))
  obtain rfl : k4 = kb := by omega
  obtain rfl : j4 = qb := by omega
  have HG0 := Lib.hid (And.intro hcr (And.intro c1 c1b))
  have HPn : Hid (hasPortB n.ends (k1 : Int) (j1 : Int) = true) := by show _ = _; first | exact Hp.out | (simp only [putEnd_port]; exact Hp.out)
  have HQn : Hid (hasPortB (putEnd n.ends ((k1 : Int), (j1 : Int)) ((k4 : Int), (j4 : Int))) (k4 : Int) (j4 : Int) = true) := by show _ = _; rw [putEnd_port]; first | exact Hbq.out | (simp only [putEnd_port]; exact Hbq.out)
  clear hcr hk hq hkb hqb c1 c1b Hcr
  obtain ⟨V, hV⟩ : ∃ V : Nat → Value, V = fun j => ([.pointer (some ⟨ob, 0, none⟩), .slice (some ⟨g, 0, none⟩) n.ends.length cE, .int .i64 k1, .pointer (some ⟨g, k1, none⟩), .slice (some ⟨gr, 0, none⟩) l cr, .int .i64 j1, .pointer (some ⟨ob, 0, none⟩), .slice (some ⟨g, 0, none⟩) n.ends.length cE, .pointer (some ⟨bb, 0, none⟩), .int .i64 k4, .pointer (some ⟨g, k4, none⟩), .slice (some ⟨grb, 0, none⟩) lb crb, .pointer (some ⟨bb, 1, none⟩), .int .i64 j4, .agg #[.int .i64 k4, .int .i64 j4], .agg #[.int .i64 k1, .int .i64 j1], .pointer (some ⟨gr, j1 * 2, none⟩), undef] : List Value).getD j undef := ⟨_, rfl⟩
  have e0 : V 0 = .pointer (some ⟨ob, 0, none⟩) := by rw [hV]; rfl
  have e1 : V 1 = .slice (some ⟨g, 0, none⟩) n.ends.length cE := by rw [hV]; rfl
  have e2 : V 2 = .int .i64 k1 := by rw [hV]; rfl
  have e3 : V 3 = .pointer (some ⟨g, k1, none⟩) := by rw [hV]; rfl
  have e4 : V 4 = .slice (some ⟨gr, 0, none⟩) l cr := by rw [hV]; rfl
  have e5 : V 5 = .int .i64 j1 := by rw [hV]; rfl
  have e6 : V 6 = .pointer (some ⟨ob, 0, none⟩) := by rw [hV]; rfl
  have e7 : V 7 = .slice (some ⟨g, 0, none⟩) n.ends.length cE := by rw [hV]; rfl
  have e8 : V 8 = .pointer (some ⟨bb, 0, none⟩) := by rw [hV]; rfl
  have e9 : V 9 = .int .i64 k4 := by rw [hV]; rfl
  have e10 : V 10 = .pointer (some ⟨g, k4, none⟩) := by rw [hV]; rfl
  have e11 : V 11 = .slice (some ⟨grb, 0, none⟩) lb crb := by rw [hV]; rfl
  have e12 : V 12 = .pointer (some ⟨bb, 1, none⟩) := by rw [hV]; rfl
  have e13 : V 13 = .int .i64 j4 := by rw [hV]; rfl
  have e14 : V 14 = .agg #[.int .i64 k4, .int .i64 j4] := by rw [hV]; rfl
  have e15 : V 15 = .agg #[.int .i64 k1, .int .i64 j1] := by rw [hV]; rfl
  have e16 : V 16 = .pointer (some ⟨gr, j1 * 2, none⟩) := by rw [hV]; rfl
  clear hV
  refine wp_region_ls 18 17 V (fun W => Cr wb W ob ba bb g cE n.ends.length (.slice AI n.ids.length cI) (.slice AN n.inputs.length cN) n S ((k3 : Int), (j3 : Int)) ((k4 : Int), (j4 : Int)) ∧ W.cell? ⟨g, k1, none⟩ = some (.slice (some ⟨gr, 0, none⟩) l cr) ∧ W.cell? ⟨g, k4, none⟩ = some (.slice (some ⟨grb, 0, none⟩) lb crb)) (fun W => Cr wb W ob ba bb g cE n.ends.length (.slice AI n.ids.length cI) (.slice AN n.inputs.length cN) { n with ends := putEnd n.ends ((k1 : Int), (j1 : Int)) ((k4 : Int), (j4 : Int)) } S ((k3 : Int), (j3 : Int)) ((k4 : Int), (j4 : Int)) ∧ W.cell? ⟨g, k1, none⟩ = some (.slice (some ⟨gr, 0, none⟩) l cr) ∧ W.cell? ⟨g, k4, none⟩ = some (.slice (some ⟨grb, 0, none⟩) lb crb)) (by kernel_rfl) (by kernel_rfl) (by kernel_rfl) ?_ ?_ ?_ (by decide) ?_
  ·exact HG0.out
  ·intro i o hi his ho W hG
   have hC : BoxN W ob (.slice (some ⟨g, 0, none⟩) n.ends.length cE) (.slice AI n.ids.length cI) (.slice AN n.inputs.length cN) ∧ E2 W 83 ba (k3 : Int) (j3 : Int) ∧ E2 W 83 bb (k4 : Int) (j4 : Int) ∧ Since wb W ∧ W.cell? ⟨g, k1, none⟩ = some (.slice (some ⟨gr, 0, none⟩) l cr) ∧ W.cell? ⟨g, k4, none⟩ = some (.slice (some ⟨grb, 0, none⟩) lb crb) := (hG.elim (fun h => ⟨h.1.box, h.1.e1, h.1.e2, h.1.since, h.2.1, h.2.2⟩) (fun h => ⟨h.1.box, h.1.e1, h.1.e2, h.1.since, h.2.1, h.2.2⟩)); obtain ⟨hbx, he1, he2, hsn, t1, t2⟩ := hC; have t0 := hbx.box.cells.1; have s0 := he1.cells.1; have s1 := he1.cells.2.1; have s2 := he2.cells.1; have s3 := he2.cells.2.1; have a0 := x0 W hsn; have a1 := x1 W hsn; have b0 := y0 W hsn; have b1 := y1 W hsn; clear hbx he1 he2 hsn hG
   match i, ho with
   | 0, ho =>
    cases ho
    clear hi his
    refine ⟨rfl, ?_⟩
    simp only [putAll, zR18, List.getElem?_toArray, List.getElem?_cons_succ, List.getElem?_cons_zero]
    (try simp only [zA])
    go_simp
   | 1, ho =>
    cases ho
    clear hi his
    refine ⟨rfl, ?_⟩
    simp only [putAll, zR18, List.getElem?_toArray, List.getElem?_cons_succ, List.getElem?_cons_zero]
    (try simp only [zA])
    go_simp
   | 2, ho =>
    cases ho
    clear hi his
    refine ⟨rfl, ?_⟩
    simp only [putAll, zR18, List.getElem?_toArray, List.getElem?_cons_succ, List.getElem?_cons_zero]
    (try simp only [zA])
    go_simp
   | 3, ho =>
    cases ho
    clear hi his
    refine ⟨rfl, ?_⟩
    simp only [putAll, zR18, List.getElem?_toArray, List.getElem?_cons_succ, List.getElem?_cons_zero]
    (try simp only [zA])
    go_simp
   | 4, ho =>
    cases ho
    clear hi his
    refine ⟨rfl, ?_⟩
    simp only [putAll, zR18, List.getElem?_toArray, List.getElem?_cons_succ, List.getElem?_cons_zero]
    (try simp only [zA])
    go_simp
   | 5, ho =>
    cases ho
    clear hi his
    refine ⟨rfl, ?_⟩
    simp only [putAll, zR18, List.getElem?_toArray, List.getElem?_cons_succ, List.getElem?_cons_zero]
    (try simp only [zA])
    go_simp
   | 6, ho =>
    cases ho
    clear hi his
    refine ⟨rfl, ?_⟩
    simp only [putAll, zR18, List.getElem?_toArray, List.getElem?_cons_succ, List.getElem?_cons_zero]
    (try simp only [zA])
    go_simp
   | 7, ho =>
    cases ho
    clear hi his
    refine ⟨rfl, ?_⟩
    simp only [putAll, zR18, List.getElem?_toArray, List.getElem?_cons_succ, List.getElem?_cons_zero]
    (try simp only [zA])
    go_simp
   | 8, ho =>
    cases ho
    clear hi his
    refine ⟨rfl, ?_⟩
    simp only [putAll, zR18, List.getElem?_toArray, List.getElem?_cons_succ, List.getElem?_cons_zero]
    (try simp only [zA])
    go_simp
   | 9, ho =>
    cases ho
    clear hi his
    refine ⟨rfl, ?_⟩
    simp only [putAll, zR18, List.getElem?_toArray, List.getElem?_cons_succ, List.getElem?_cons_zero]
    (try simp only [zA])
    go_simp
   | 10, ho =>
    cases ho
    clear hi his
    refine ⟨rfl, ?_⟩
    simp only [putAll, zR18, List.getElem?_toArray, List.getElem?_cons_succ, List.getElem?_cons_zero]
    (try simp only [zA])
    go_simp
   | 11, ho =>
    cases ho
    clear hi his
    refine ⟨rfl, ?_⟩
    simp only [putAll, zR18, List.getElem?_toArray, List.getElem?_cons_succ, List.getElem?_cons_zero]
    (try simp only [zA])
    go_simp
   | 12, ho =>
    cases ho
    clear hi his
    refine ⟨rfl, ?_⟩
    simp only [putAll, zR18, List.getElem?_toArray, List.getElem?_cons_succ, List.getElem?_cons_zero]
    (try simp only [zA])
    go_simp
   | 13, ho =>
    cases ho
    clear hi his
    refine ⟨rfl, ?_⟩
    simp only [putAll, zR18, List.getElem?_toArray, List.getElem?_cons_succ, List.getElem?_cons_zero]
    (try simp only [zA])
    go_simp
   | 14, ho =>
    cases ho
    clear hi his
    refine ⟨rfl, ?_⟩
    simp only [putAll, zR18, List.getElem?_toArray, List.getElem?_cons_succ, List.getElem?_cons_zero]
    (try simp only [zA])
    go_simp
   | 15, ho =>
    cases ho
    clear hi his
    refine ⟨rfl, ?_⟩
    simp only [putAll, zR18, List.getElem?_toArray, List.getElem?_cons_succ, List.getElem?_cons_zero]
    (try simp only [zA])
    go_simp
   | 16, ho =>
    cases ho
    clear hi his
    refine ⟨rfl, ?_⟩
    simp only [putAll, zR18, List.getElem?_toArray, List.getElem?_cons_succ, List.getElem?_cons_zero]
    (try simp only [zA])
    go_simp
   | 17, ho =>
    exact absurd rfl his
   | i + 18, ho => omega
  ·intro o ho
   cases ho
   refine ⟨rfl, fun W hG => ⟨rfl, ?_⟩⟩
   obtain ⟨hc, hd1, hd2⟩ := hG; obtain ⟨k', q', gr', cr', l', hk', hq', -, -, -, -, c1, n1, -, -, -, f0, f1, ⟨z0, c2⟩, ⟨z1', c3⟩, hup⟩ := hc.port HPn.out; obtain rfl : k1 = k' := (by omega); obtain rfl : j1 = q' := (by omega); obtain ⟨rfl, rfl, rfl⟩ : gr = gr' ∧ l = l' ∧ cr = cr' := (by simpa using hd1.symm.trans c1); have Hup := Lib.hid (hup ((k4 : Int), (j4 : Int))); have Hn1 := Lib.hid n1; have Hd := Lib.hid (And.intro hd1 hd2); clear hup hc hd1 hd2 c1 n1 hk' hq'
   refine ⟨(W.setCell ⟨gr, j1 * 2, none⟩ (.int .i64 k4)).setCell ⟨gr, j1 * 2 + 1, none⟩ (.int .i64 j4), ?_, ?_⟩
   ·simp only [putAll, zR18, List.getElem?_toArray, List.getElem?_cons_succ, List.getElem?_cons_zero]
    (try simp only [zA])
    go_simp
   ·exact ⟨Hup.out, Only.cell (S := [gr]) (((Only.refl _ _).setCell (.inl (by simp)) _).setCell (.inl (by simp)) _) (by simpa using Hn1.out) Hd.out.1, Only.cell (S := [gr]) (((Only.refl _ _).setCell (.inl (by simp)) _).setCell (.inl (by simp)) _) (by simpa using Hn1.out) Hd.out.2⟩
  intro W hG
  simp only [putAll, zR18, List.getElem?_toArray, List.getElem?_cons_succ, List.getElem?_cons_zero]
  (try simp only [zA])
  simp only [List.drop_succ_cons, List.drop_zero]
  rw [e0, e1, e2, e3, e4, e5, e6, e7, e8, e9, e10, e11, e12, e13, e14, e15, e16]
  clear e0 e1 e2 e3 e4 e5 e6 e7 e8 e9 e10 e11 e12 e13 e14 e15 e16
  obtain ⟨hc, hd1, hd2⟩ := hG
  obtain ⟨kc, qc, grc, crc, lc, hkc, hqc, -, -, -, -, c1c, n1c, -, -, -, f0, f1, ⟨z0, c2⟩, ⟨z1', c3⟩, hup⟩ := hc.port HQn.out
  obtain rfl : k4 = kc := by omega
  obtain rfl : j4 = qc := by omega
  obtain ⟨rfl, rfl, rfl⟩ : grb = grc ∧ lb = lc ∧ crb = crc := by simpa using hd2.symm.trans c1c
  have Hup := Lib.hid (hup ((k1 : Int), (j1 : Int)))
  clear hup hc hd1 hd2 c1c n1c hkc hqc
  go_upto_region 7 with (refine store_endL rfl _ _ rfl grb (j4 * 2) k1 j1 rfl rfl c2 c3 f0 f1 ?_; intro W3 hWN; have HcrC := Lib.hid (show Cr wb W3 ob ba bb g cE n.ends.length _ _ _ S _ _ from by rw [hWN]; exact Hup.out); clear hWN Hup f0 f1 c2 c3)
  have HcrA := HcrC
  clear HcrC hkm hql hlc hcm hkmb hqlb hlcb hcmb z0 z1'
  obtain ⟨NP, hNP⟩ : ∃ N : Net, N = { n with ends := putEnd (putEnd n.ends ((k1 : Int), (j1 : Int)) ((k4 : Int), (j4 : Int))) ((k4 : Int), (j4 : Int)) ((k1 : Int), (j1 : Int)) } := ⟨_, rfl⟩
  have Hcr : Hid (Cr wb W3 ob ba bb g cE n.ends.length (.slice AI n.ids.length cI) (.slice AN n.inputs.length cN) NP S ((k3 : Int), (j3 : Int)) ((k4 : Int), (j4 : Int))) := by show Cr _ _ _ _ _ _ _ _ _ _ _ _ _ _; rw [hNP]; exact HcrA.out
  have HpB : Hid (hasPortB NP.ends (k2 : Int) (j2 : Int) = true) := by show _ = _; rw [hNP]; simp only [putEnd_port]; exact Hq.out
  have HqB : Hid (hasPortB NP.ends (k3 : Int) (j3 : Int) = true) := by show _ = _; rw [hNP]; simp only [putEnd_port]; exact Hbp.out
  have HNP := Lib.hid hNP
  clear HcrA hNP
  have hcr := Hcr.out.drew
  obtain ⟨k, q, gr, cr, l, hk, hq, hkm, hql, hlc, hcm, c1, -, -, -, -, -, -, -, -, -⟩ := hcr.port (by first | exact HpB.out | (simp only [putEnd_port]; exact HpB.out))
  obtain rfl : k2 = k := by omega
  obtain rfl : j2 = q := by omega
  obtain ⟨kb, qb, grb, crb, lb, hkb, hqb, hkmb, hqlb, hlcb, hcmb, c1b, -, -, -, -, -, -, -, -, -⟩ := hcr.port (by first | exact HqB.out | (simp only [putEnd_port]; exact HqB.out))
  obtain rfl : k3 = kb := by omega
  obtain rfl : j3 = qb := by omega
  have HG0 := Lib.hid (And.intro hcr (And.intro c1 c1b))
  have HPm : Hid (hasPortB NP.ends (k2 : Int) (j2 : Int) = true) := by show _ = _; first | exact HpB.out | (simp only [putEnd_port]; exact HpB.out)
  have HQm : Hid (hasPortB (putEnd NP.ends ((k2 : Int), (j2 : Int)) ((k3 : Int), (j3 : Int))) (k3 : Int) (j3 : Int) = true) := by show _ = _; rw [putEnd_port]; first | exact HqB.out | (simp only [putEnd_port]; exact HqB.out)
  clear hcr hk hq hkb hqb c1 c1b Hcr
  obtain ⟨V, hV⟩ : ∃ V : Nat → Value, V = fun j => ([.pointer (some ⟨ob, 0, none⟩), .slice (some ⟨g, 0, none⟩) n.ends.length cE, .int .i64 k2, .pointer (some ⟨g, k2, none⟩), .slice (some ⟨gr, 0, none⟩) l cr, .int .i64 j2, .pointer (some ⟨ob, 0, none⟩), .slice (some ⟨g, 0, none⟩) n.ends.length cE, .pointer (some ⟨ba, 0, none⟩), .int .i64 k3, .pointer (some ⟨g, k3, none⟩), .slice (some ⟨grb, 0, none⟩) lb crb, .pointer (some ⟨ba, 1, none⟩), .int .i64 j3, .agg #[.int .i64 k3, .int .i64 j3], .agg #[.int .i64 k2, .int .i64 j2], .pointer (some ⟨gr, j2 * 2, none⟩), undef] : List Value).getD j undef := ⟨_, rfl⟩
  have e0 : V 0 = .pointer (some ⟨ob, 0, none⟩) := by rw [hV]; rfl
  have e1 : V 1 = .slice (some ⟨g, 0, none⟩) n.ends.length cE := by rw [hV]; rfl
  have e2 : V 2 = .int .i64 k2 := by rw [hV]; rfl
  have e3 : V 3 = .pointer (some ⟨g, k2, none⟩) := by rw [hV]; rfl
  have e4 : V 4 = .slice (some ⟨gr, 0, none⟩) l cr := by rw [hV]; rfl
  have e5 : V 5 = .int .i64 j2 := by rw [hV]; rfl
  have e6 : V 6 = .pointer (some ⟨ob, 0, none⟩) := by rw [hV]; rfl
  have e7 : V 7 = .slice (some ⟨g, 0, none⟩) n.ends.length cE := by rw [hV]; rfl
  have e8 : V 8 = .pointer (some ⟨ba, 0, none⟩) := by rw [hV]; rfl
  have e9 : V 9 = .int .i64 k3 := by rw [hV]; rfl
  have e10 : V 10 = .pointer (some ⟨g, k3, none⟩) := by rw [hV]; rfl
  have e11 : V 11 = .slice (some ⟨grb, 0, none⟩) lb crb := by rw [hV]; rfl
  have e12 : V 12 = .pointer (some ⟨ba, 1, none⟩) := by rw [hV]; rfl
  have e13 : V 13 = .int .i64 j3 := by rw [hV]; rfl
  have e14 : V 14 = .agg #[.int .i64 k3, .int .i64 j3] := by rw [hV]; rfl
  have e15 : V 15 = .agg #[.int .i64 k2, .int .i64 j2] := by rw [hV]; rfl
  have e16 : V 16 = .pointer (some ⟨gr, j2 * 2, none⟩) := by rw [hV]; rfl
  clear hV
  refine wp_region_ls 18 17 V (fun W => Cr wb W ob ba bb g cE n.ends.length (.slice AI n.ids.length cI) (.slice AN n.inputs.length cN) NP S ((k3 : Int), (j3 : Int)) ((k4 : Int), (j4 : Int)) ∧ W.cell? ⟨g, k2, none⟩ = some (.slice (some ⟨gr, 0, none⟩) l cr) ∧ W.cell? ⟨g, k3, none⟩ = some (.slice (some ⟨grb, 0, none⟩) lb crb)) (fun W => Cr wb W ob ba bb g cE n.ends.length (.slice AI n.ids.length cI) (.slice AN n.inputs.length cN) { NP with ends := putEnd NP.ends ((k2 : Int), (j2 : Int)) ((k3 : Int), (j3 : Int)) } S ((k3 : Int), (j3 : Int)) ((k4 : Int), (j4 : Int)) ∧ W.cell? ⟨g, k2, none⟩ = some (.slice (some ⟨gr, 0, none⟩) l cr) ∧ W.cell? ⟨g, k3, none⟩ = some (.slice (some ⟨grb, 0, none⟩) lb crb)) (by kernel_rfl) (by kernel_rfl) (by kernel_rfl) ?_ ?_ ?_ (by decide) ?_
  ·exact HG0.out
  ·intro i o hi his ho W hG
   have hC : BoxN W ob (.slice (some ⟨g, 0, none⟩) n.ends.length cE) (.slice AI n.ids.length cI) (.slice AN n.inputs.length cN) ∧ E2 W 83 ba (k3 : Int) (j3 : Int) ∧ E2 W 83 bb (k4 : Int) (j4 : Int) ∧ Since wb W ∧ W.cell? ⟨g, k2, none⟩ = some (.slice (some ⟨gr, 0, none⟩) l cr) ∧ W.cell? ⟨g, k3, none⟩ = some (.slice (some ⟨grb, 0, none⟩) lb crb) := (hG.elim (fun h => ⟨h.1.box, h.1.e1, h.1.e2, h.1.since, h.2.1, h.2.2⟩) (fun h => ⟨h.1.box, h.1.e1, h.1.e2, h.1.since, h.2.1, h.2.2⟩)); obtain ⟨hbx, he1, he2, hsn, t1, t2⟩ := hC; have t0 := hbx.box.cells.1; have s0 := he1.cells.1; have s1 := he1.cells.2.1; have s2 := he2.cells.1; have s3 := he2.cells.2.1; have a0 := x0 W hsn; have a1 := x1 W hsn; have b0 := y0 W hsn; have b1 := y1 W hsn; clear hbx he1 he2 hsn hG
   match i, ho with
   | 0, ho =>
    cases ho
    clear hi his
    refine ⟨rfl, ?_⟩
    simp only [putAll, zR18, List.getElem?_toArray, List.getElem?_cons_succ, List.getElem?_cons_zero]
    (try simp only [zA])
    go_simp
   | 1, ho =>
    cases ho
    clear hi his
    refine ⟨rfl, ?_⟩
    simp only [putAll, zR18, List.getElem?_toArray, List.getElem?_cons_succ, List.getElem?_cons_zero]
    (try simp only [zA])
    go_simp
   | 2, ho =>
    cases ho
    clear hi his
    refine ⟨rfl, ?_⟩
    simp only [putAll, zR18, List.getElem?_toArray, List.getElem?_cons_succ, List.getElem?_cons_zero]
    (try simp only [zA])
    go_simp
   | 3, ho =>
    cases ho
    clear hi his
    refine ⟨rfl, ?_⟩
    simp only [putAll, zR18, List.getElem?_toArray, List.getElem?_cons_succ, List.getElem?_cons_zero]
    (try simp only [zA])
    go_simp
   | 4, ho =>
    cases ho
    clear hi his
    refine ⟨rfl, ?_⟩
    simp only [putAll, zR18, List.getElem?_toArray, List.getElem?_cons_succ, List.getElem?_cons_zero]
    (try simp only [zA])
    go_simp
   | 5, ho =>
    cases ho
    clear hi his
    refine ⟨rfl, ?_⟩
    simp only [putAll, zR18, List.getElem?_toArray, List.getElem?_cons_succ, List.getElem?_cons_zero]
    (try simp only [zA])
    go_simp
   | 6, ho =>
    cases ho
    clear hi his
    refine ⟨rfl, ?_⟩
    simp only [putAll, zR18, List.getElem?_toArray, List.getElem?_cons_succ, List.getElem?_cons_zero]
    (try simp only [zA])
    go_simp
   | 7, ho =>
    cases ho
    clear hi his
    refine ⟨rfl, ?_⟩
    simp only [putAll, zR18, List.getElem?_toArray, List.getElem?_cons_succ, List.getElem?_cons_zero]
    (try simp only [zA])
    go_simp
   | 8, ho =>
    cases ho
    clear hi his
    refine ⟨rfl, ?_⟩
    simp only [putAll, zR18, List.getElem?_toArray, List.getElem?_cons_succ, List.getElem?_cons_zero]
    (try simp only [zA])
    go_simp
   | 9, ho =>
    cases ho
    clear hi his
    refine ⟨rfl, ?_⟩
    simp only [putAll, zR18, List.getElem?_toArray, List.getElem?_cons_succ, List.getElem?_cons_zero]
    (try simp only [zA])
    go_simp
   | 10, ho =>
    cases ho
    clear hi his
    refine ⟨rfl, ?_⟩
    simp only [putAll, zR18, List.getElem?_toArray, List.getElem?_cons_succ, List.getElem?_cons_zero]
    (try simp only [zA])
    go_simp
   | 11, ho =>
    cases ho
    clear hi his
    refine ⟨rfl, ?_⟩
    simp only [putAll, zR18, List.getElem?_toArray, List.getElem?_cons_succ, List.getElem?_cons_zero]
    (try simp only [zA])
    go_simp
   | 12, ho =>
    cases ho
    clear hi his
    refine ⟨rfl, ?_⟩
    simp only [putAll, zR18, List.getElem?_toArray, List.getElem?_cons_succ, List.getElem?_cons_zero]
    (try simp only [zA])
    go_simp
   | 13, ho =>
    cases ho
    clear hi his
    refine ⟨rfl, ?_⟩
    simp only [putAll, zR18, List.getElem?_toArray, List.getElem?_cons_succ, List.getElem?_cons_zero]
    (try simp only [zA])
    go_simp
   | 14, ho =>
    cases ho
    clear hi his
    refine ⟨rfl, ?_⟩
    simp only [putAll, zR18, List.getElem?_toArray, List.getElem?_cons_succ, List.getElem?_cons_zero]
    (try simp only [zA])
    go_simp
   | 15, ho =>
    cases ho
    clear hi his
    refine ⟨rfl, ?_⟩
    simp only [putAll, zR18, List.getElem?_toArray, List.getElem?_cons_succ, List.getElem?_cons_zero]
    (try simp only [zA])
    go_simp
   | 16, ho =>
    cases ho
    clear hi his
    refine ⟨rfl, ?_⟩
    simp only [putAll, zR18, List.getElem?_toArray, List.getElem?_cons_succ, List.getElem?_cons_zero]
    (try simp only [zA])
    go_simp
   | 17, ho =>
    exact absurd rfl his
   | i + 18, ho => omega
  ·intro o ho
   cases ho
   refine ⟨rfl, fun W hG => ⟨rfl, ?_⟩⟩
   obtain ⟨hc, hd1, hd2⟩ := hG; obtain ⟨k', q', gr', cr', l', hk', hq', -, -, -, -, c1, n1, -, -, -, f0, f1, ⟨z0, c2⟩, ⟨z1', c3⟩, hup⟩ := hc.port HPm.out; obtain rfl : k2 = k' := (by omega); obtain rfl : j2 = q' := (by omega); obtain ⟨rfl, rfl, rfl⟩ : gr = gr' ∧ l = l' ∧ cr = cr' := (by simpa using hd1.symm.trans c1); have Hup := Lib.hid (hup ((k3 : Int), (j3 : Int))); have Hn1 := Lib.hid n1; have Hd := Lib.hid (And.intro hd1 hd2); clear hup hc hd1 hd2 c1 n1 hk' hq'
   refine ⟨(W.setCell ⟨gr, j2 * 2, none⟩ (.int .i64 k3)).setCell ⟨gr, j2 * 2 + 1, none⟩ (.int .i64 j3), ?_, ?_⟩
   ·simp only [putAll, zR18, List.getElem?_toArray, List.getElem?_cons_succ, List.getElem?_cons_zero]
    (try simp only [zA])
    go_simp
   ·exact ⟨Hup.out, Only.cell (S := [gr]) (((Only.refl _ _).setCell (.inl (by simp)) _).setCell (.inl (by simp)) _) (by simpa using Hn1.out) Hd.out.1, Only.cell (S := [gr]) (((Only.refl _ _).setCell (.inl (by simp)) _).setCell (.inl (by simp)) _) (by simpa using Hn1.out) Hd.out.2⟩
  intro W hG
  simp only [putAll, zR18, List.getElem?_toArray, List.getElem?_cons_succ, List.getElem?_cons_zero]
  (try simp only [zA])
  simp only [List.drop_succ_cons, List.drop_zero]
  rw [e0, e1, e2, e3, e4, e5, e6, e7, e8, e9, e10, e11, e12, e13, e14, e15, e16]
  clear e0 e1 e2 e3 e4 e5 e6 e7 e8 e9 e10 e11 e12 e13 e14 e15 e16
  obtain ⟨hc, hd1, hd2⟩ := hG
  obtain ⟨kc, qc, grc, crc, lc, hkc, hqc, -, -, -, -, c1c, n1c, -, -, -, f0, f1, ⟨z0, c2⟩, ⟨z1', c3⟩, hup⟩ := hc.port HQm.out
  obtain rfl : k3 = kc := by omega
  obtain rfl : j3 = qc := by omega
  obtain ⟨rfl, rfl, rfl⟩ : grb = grc ∧ lb = lc ∧ crb = crc := by simpa using hd2.symm.trans c1c
  have Hup := Lib.hid (hup ((k2 : Int), (j2 : Int)))
  clear hup hc hd1 hd2 c1c n1c hkc hqc
  go_upto_region 8 with (refine store_endL rfl _ _ rfl grb (j3 * 2) k2 j2 rfl rfl c2 c3 f0 f1 ?_; intro W5 hWN; have HcrC := Lib.hid (show Cr wb W5 ob ba bb g cE n.ends.length _ _ _ S _ _ from by rw [hWN]; exact Hup.out); clear hWN Hup f0 f1 c2 c3)
  have Hcr := HcrC
  clear HcrC hkm hql hlc hcm hkmb hqlb hlcb hcmb z0 z1'
  have HR := HRb.out W5 (Hab.out.after Hcr.out.since)
  have HR' := Lib.hid HR
  clear HR x0 x1 y0 y1 hk1 hj1 hz1 hz1' hk2 hj2 hz2 hz2' hlen
  simp only [gv, HnO.out, Bool.not_true, if_true, Act.put]
  go_upto_region 8 with (fail)
  go_step
  refine load_netL rfl _ rfl ob rfl Hcr.out.box ?_
  refine store_netL rfl _ _ rfl rfl (w.heap.size + 1) rfl rfl HR'.out ?_
  intro W6 hW6
  have HR6 : Hid (BoxN W6 (w.heap.size + 1) (.slice (some ⟨g, 0, none⟩) n.ends.length cE) (.slice AI n.ids.length cI) (.slice AN n.inputs.length cN)) := by show BoxN _ _ _ _ _; rw [hW6]; exact ((HR'.out.put0 _).put1 _).put2 _
  have HW6 := Lib.hid hW6
  obtain ⟨d0, d1, d2, -, -, -⟩ := HR6.out.box.cells
  clear hW6
  go_step
  go_step
  go_step
  go_step
  go_step
  go_step
  go_step
  refine bodyPost_ret (v := .tuple #[.agg #[.slice (some ⟨g, 0, none⟩) n.ends.length cE, .slice AI n.ids.length cI, .slice AN n.inputs.length cN], .bool true]) (by simp [results, Tryz.results13, go_sem, d0, d1, d2]) rfl ?_
  refine ⟨_, _, _, S, by unfold fnExactCrossEdges_r1; rw [Hok.out], ?_, ?_⟩
  ·have e : crossE n (k1 : Int) (j1 : Int) (k2 : Int) (j2 : Int) = putEnd (putEnd (putEnd (putEnd n.ends ((k1 : Int), (j1 : Int)) ((k4 : Int), (j4 : Int))) ((k4 : Int), (j4 : Int)) ((k1 : Int), (j1 : Int))) ((k2 : Int), (j2 : Int)) ((k3 : Int), (j3 : Int))) ((k3 : Int), (j3 : Int)) ((k2 : Int), (j2 : Int)) := by
    unfold crossE
    rw [Hat1.out, Hat2.out]
   have hx : OwnNet W5 wb.heap.size (.slice (some ⟨g, 0, none⟩) n.ends.length cE) (.slice AI n.ids.length cI) (.slice AN n.inputs.length cN) { n with ends := putEnd (putEnd (putEnd (putEnd n.ends ((k1 : Int), (j1 : Int)) ((k4 : Int), (j4 : Int))) ((k4 : Int), (j4 : Int)) ((k1 : Int), (j1 : Int))) ((k2 : Int), (j2 : Int)) ((k3 : Int), (j3 : Int))) ((k3 : Int), (j3 : Int)) ((k2 : Int), (j2 : Int)) } S := by
    have h5 := Hcr.out.own
    rw [HNP.out] at h5
    exact h5
   unfold fnExactCrossEdges_d
   rw [if_pos Hok.out, e]
   have hz := Nat.le_trans (Nat.le_trans Hb0.out.size Hsa.out.below.size) Hab.out.below.size
   rw [HW6.out]
   refine (hx.stable (fun j hj => ?_)).mono hz
   have hj1 := (hx.range j hj).1
   have hj2 := Hza.out
   have hj3 := Hab.out.below.size
   rw [Below.heap_setCell _ _ _ j (by simp; omega), Below.heap_setCell _ _ _ j (by simp; omega), Below.heap_setCell _ _ _ j (by simp; omega)]
  ·rw [HW6.out]; exact (((Below.trans Hb0.out ((Hsa.out.after (Hab.out.after Hcr.out.since)).below.mono Hb0.out.size)).setCell (by simp) _).setCell (by simp) _).setCell (by simp) _
 ·have hok : crossEOk n v i x j = false := by
   cases h : crossEOk n v i x j with
   | false => rfl
   | true =>
    obtain ⟨a1, a2, a3, a4⟩ := ce_ok h
    rw [a1, a2, a3, a4] at hg
    simp at hg
  have Hok := Lib.hid hok
  have HS2 := Lib.hid (Hab.out.after hW)
  obtain ⟨d0, d1, d2, f0, f1, f2⟩ := (HRb.out W HS2.out).box.cells
  clear hok hg hW hbb s00 s01 s02 x0 x1 y0 y1
  go_upto_region 3 with (fail)
  repeat go_step
  refine bodyPost_ret (v := .tuple #[.agg #[.slice none 0 0, .slice none 0 0, .slice none 0 0], .bool false]) (by simp [results, Tryz.results13, go_sem, d0, d1, d2, f0, f1, f2]) rfl ?_
  refine ⟨_, _, _, [], by unfold fnExactCrossEdges_r1; rw [Hok.out], ?_, ?_⟩
  ·unfold fnExactCrossEdges_d
   rw [if_neg (by rw [Hok.out]; simp)]
   exact ownNet_nil _ _
  ·exact (((Below.trans Hb0.out ((Hsa.out.after HS2.out).below.mono Hb0.out.size)).setCell (by simp) _).setCell (by simp) _).setCell (by simp) _
end Go.Proofs.YtgmdpppljkmabaaGreat
namespace Go.Proofs.YtgmdpppljkmabaaGreat
open Go Go.RowKit
/-! DegreesOf -/
def degL (n : Net) : List Int := n.ends.map fun es => (es.length : Int)
theorem degL_get {n : Net} {k : Nat} {es : List (Int × Int)} (h : n.ends[k]? = some es) : (degL n)[k]? = some (es.length : Int) := by simp [degL, h]
theorem degL_len (n : Net) : (degL n).length = n.ends.length := by simp [degL]
set_option maxHeartbeats 8000000 in
theorem degrees_any (ve vi vn : Value) (n : Net) (w : World) (h : NetIn w ve vi vn n) (hl : n.ends.length ≤ 1000000) (hrow : ∀ (k : Nat) (es : List (Int × Int)), n.ends[k]? = some es → es.length ≤ 1000000) :
  Calls Tryz.prog 66 #[.agg #[ve, vi, vn]] w fun e w' => ∃ u, e = .returned u ∧ Own w' w.heap.size u (degL n) ∧ Below w.heap.size w w' := by
 have HR := Lib.hid hrow
 clear hrow
 obtain ⟨w0, hw0⟩ : ∃ w0, w0 = (w).alloc (.cells #[ve, vi, vn] 27) := ⟨_, rfl⟩
 have hb0 : Below w.heap.size w w0 := by rw [hw0]; exact ((Below.refl _ _).alloc (by simp) _)
 have H := Lib.hid (h.keep hb0)
 obtain ⟨h1, h2, h3⟩ := h.keep hb0
 obtain ⟨A, c, rfl, hlc, hm, hA⟩ := h1
 obtain ⟨A2, c2, rfl, _, hm2, _⟩ := h2
 obtain ⟨A3, c3, rfl, _, hm3, _⟩ := h3
 unfold maxLen at hm hm2 hm3
 have p00 : ∀ W, Since w0 W → W.cell? ⟨w.heap.size, 0, none⟩ = some (.slice A n.ends.length c) := have_cell (by rw [hw0]; simp)
 have p01 : ∀ W, Since w0 W → W.cell? ⟨w.heap.size, 1, none⟩ = some (.slice A2 n.ids.length c2) := have_cell (by rw [hw0]; simp)
 have p02 : ∀ W, Since w0 W → W.cell? ⟨w.heap.size, 2, none⟩ = some (.slice A3 n.inputs.length c3) := have_cell (by rw [hw0]; simp)
 have Hb0 := Lib.hid hb0
 have Hw0 := Lib.hid hw0
 have HA := Lib.hid hA
 clear hA h
 clear hb0 hw0
 have hs0 : Since w0 w0 := since_refl _
 have hp0 := p00 w0 hs0
 go_enter Tryz.func66, Tryz.ntmps66
 go_upto_region 1 with (fail)
 rw [← Hw0.out]
 go_wp2
 clear hp0
 go_loopw [3, 9] (fun u i wr => ∃ k : Nat, k ≤ n.ends.length ∧ i = .int .i64 k ∧ Own wr w0.heap.size u ((degL n).take k) ∧ Since w0 wr) (fun _ i _ => n.ends.length - (intOf i).toNat)
 case atStart => exact ⟨0, Nat.zero_le _, rfl, by simpa using own_nil _ w0.heap.size, hs0⟩
 case round =>
  obtain ⟨k, hk, rfl, ho, hsr⟩ := hrel
  have Ho := Lib.hid ho
  have Hs := Lib.hid hsr
  clear ho
  by_cases hlt : k < n.ends.length
  ·obtain ⟨es, hes⟩ := getx n.ends k hlt
   obtain ⟨b, offr, cr, ur, hA1', -, hc1, hE1⟩ := row_at (H.out.keep hsr.below).es hes
   cases hA1'
   obtain ⟨A9, y9, rfl, hz1, hz2, -⟩ := hE1
   have m1 : IntKind.i64.wrap ((k : Int) + 1) = (k : Int) + 1 := wr64 _ (by omega) (by omega)
   have Hlen : Hid (((degL n).take k).length + 1 ≤ 17592186044416) := by show _ ≤ _; rw [List.length_take, degL_len]; omega
   have Hn1 := Lib.hid (take_snoc (degL_get hes))
   clear hes hsr
   go_wp2_with (at_builtin; refine app_int_s rfl _ _ rfl rfl (Ho.out.since (since_alloc _ (since_refl _))) wr.heap.size (es.length : Int) rfl (by simp [go_sem]) Hlen.out (since_alloc _ Hs.out) ?_; intro g cx w4 ho4 hs4)
   have Ho4 := Lib.hid ho4
   have Hs4 := Lib.hid hs4
   clear ho4 hs4
   go_wp2
   go_roundw
   case rel => exact ⟨k + 1, by omega, by first | rfl | go_num, by rw [Hn1.out]; have := Ho4.out; rw [List.length_take] at this; exact this, Hs4.out⟩
   case measure => simp [intOf]; omega
  ·obtain rfl : k = n.ends.length := by omega
   go_wp2
   go_ret
   refine ⟨_, rfl, ?_, Below.trans Hb0.out (Hs.out.below.mono Hb0.out.size)⟩
   have h9 := Ho.out
   rw [List.take_of_length_le (by rw [degL_len]; exact Nat.le_refl _)] at h9
   exact h9.mono Hb0.out.size
set_option maxHeartbeats 8000000 in
theorem degreesOf_any (ve vi vn : Value) (n : Net) (w : World) (h : NetIn w ve vi vn n) (hil : n.ids.length ≤ 17592186044416) :
  Calls Tryz.prog 19 #[.agg #[ve, vi, vn]] w fun e w' => ∃ u, e = .returned (.tuple #[u, .bool (netOk n)]) ∧ Own w' w.heap.size u (if netOk n = true then degL n else []) ∧ Below w.heap.size w w' := by
 have Hil := Lib.hid hil
 clear hil
 obtain ⟨w0, hw0⟩ : ∃ w0, w0 = (w).alloc (.cells #[ve, vi, vn] 27) := ⟨_, rfl⟩
 have hb0 : Below w.heap.size w w0 := by rw [hw0]; exact ((Below.refl _ _).alloc (by simp) _)
 have H := Lib.hid (h.keep hb0)
 obtain ⟨h1, h2, h3⟩ := h.keep hb0
 obtain ⟨A, c, rfl, hlc, hm, hA⟩ := h1
 obtain ⟨A2, c2, rfl, _, hm2, _⟩ := h2
 obtain ⟨A3, c3, rfl, _, hm3, _⟩ := h3
 unfold maxLen at hm hm2 hm3
 have p00 : ∀ W, Since w0 W → W.cell? ⟨w.heap.size, 0, none⟩ = some (.slice A n.ends.length c) := have_cell (by rw [hw0]; simp)
 have p01 : ∀ W, Since w0 W → W.cell? ⟨w.heap.size, 1, none⟩ = some (.slice A2 n.ids.length c2) := have_cell (by rw [hw0]; simp)
 have p02 : ∀ W, Since w0 W → W.cell? ⟨w.heap.size, 2, none⟩ = some (.slice A3 n.inputs.length c3) := have_cell (by rw [hw0]; simp)
 have Hb0 := Lib.hid hb0
 have Hw0 := Lib.hid hw0
 have HA := Lib.hid hA
 clear hA h
 clear hb0 hw0
 have hs0 : Since w0 w0 := since_refl _
 go_enter Tryz.func19, Tryz.ntmps19
 go_upto_region 1 with (fail)
 rw [← Hw0.out]
 go_wp2_with fail
 refine (isNetwork_any _ _ _ n w0 H.out Hil.out).mono ?_
 rintro e w1 ⟨rfl, hb1⟩
 have Hs1 : Hid (Since w0 w1) := hb1
 clear hb1
 cases hb : netOk n
 ·go_wp2
  all_goals go_ret2
  all_goals exact ⟨_, rfl, by simpa using own_nil _ w.heap.size, Below.trans Hb0.out (Hs1.out.below.mono Hb0.out.size)⟩
 ·have Hb := Lib.hid hb
  have hs1 := Hs1.out
  clear hb
  go_wp2_with fail
  refine (degrees_any _ _ _ n w1 (H.out.keep Hs1.out.below) (by have := (netOk_len Hb.out).2; omega) (fun k es he => by have := (netOk_row Hb.out he).1; omega)).mono ?_
  rintro e w2 ⟨u, rfl, ho, hb2⟩
  have Ho := Lib.hid (ho.mono (Nat.le_trans Hb0.out.size Hs1.out.below.size))
  have Hs2 := Lib.hid (Hs1.out.after hb2)
  clear ho hb2 hs1
  go_wp2
  go_ret2
  exact ⟨_, rfl, by simpa using Ho.out, Below.trans Hb0.out (Hs2.out.below.mono Hb0.out.size)⟩
end Go.Proofs.YtgmdpppljkmabaaGreat
namespace Go.Proofs.YtgmdpppljkmabaaGreat
open Go.RowKit
/-! comparisons of the great laws -/
set_option maxHeartbeats 4000000 in
theorem sameInts_any (v u : Value) (xs ys : List Int) (w : World) (h : IntS w v xs) (h' : IntS w u ys) :
  Calls Tryz.prog 16 #[v, u] w fun e w' => e = .returned (.bool (decide (xs = ys))) ∧ ∃ m, w' = w.drewN m := by
 obtain ⟨A, c, rfl, hlc, hm, hA⟩ := h
 obtain ⟨B, d, rfl, hld, hmd, hB⟩ := h'
 unfold maxLen at hm hmd
 have HA := Lib.hid hA
 have HB := Lib.hid hB
 clear hA hB
 by_cases hl : xs.length = ys.length
 ·have Hl := Lib.hid hl
  have hl1 : xs.length ≤ ys.length := by omega
  have hl2 : ys.length ≤ xs.length := by omega
  have hb : ((xs.length : Int) != (ys.length : Int)) = false := by simp [hl]
  clear hl
  go_enter Tryz.func16, Tryz.ntmps16
  go_wp2
  go_loopw [13] (fun i wr => ∃ k n : Nat, k ≤ xs.length ∧ i = .int .i64 k ∧ xs.take k = ys.take k ∧ wr = w.drewN n) (fun i _ => xs.length - (intOf i).toNat)
  case atStart => exact ⟨0, 0, Nat.zero_le _, rfl, by simp, rfl⟩
  case round =>
   obtain ⟨k, n, hk, rfl, heq, rfl⟩ := hrel
   have Heq := Lib.hid heq
   clear heq
   by_cases hlt : k < xs.length
   ·obtain ⟨x, hx⟩ := getx xs k hlt
    obtain ⟨y, hy⟩ := getx ys k (by omega)
    obtain ⟨b, off, rfl, hcell⟩ := HA.out k x hx
    obtain ⟨b', off', rfl, hcell'⟩ := HB.out k y hy
    have Hx := Lib.hid hx
    have Hy := Lib.hid hy
    clear hx hy
    cases hxy : (x != y)
    all_goals
     have Hxy := Lib.hid hxy
     go_wp2
     go_quiet (fail)
     go_wp2
    ·go_roundw
     case rel => exact ⟨k + 1, _, by omega, by go_num, by rw [take_snoc Hx.out, take_snoc Hy.out, Heq.out, show x = y by simpa using Hxy.out], rfl⟩
     case measure => simp [intOf]; omega
    ·go_ret
     refine ⟨ret_false (decide_eq_false fun e => ?_), dr1 _ _ _⟩
     have h1 := Hx.out
     rw [e, Hy.out] at h1
     have h2 := Hxy.out
     simp at h1 h2
     exact h2 h1.symm
   ·go_wp2
    go_ret
    exact ⟨ret_true (decide_eq_true (eq_of_takes Hl.out Heq.out hlt)), _, rfl⟩
 ·have hb : ((xs.length : Int) != (ys.length : Int)) = true := by simp; omega
  have Hl := Lib.hid hl
  clear hl
  go_enter Tryz.func16, Tryz.ntmps16
  go_wp2
  go_ret
  exact ⟨ret_false (decide_eq_false fun e => Hl.out (by rw [e])), 0, rfl⟩
theorem sameInts_b (v u : Value) (xs ys : List Int) (w : World) (h : IntS w v xs) (h' : IntS w u ys) :
  Calls Tryz.prog 16 #[v, u] w fun e w' => e = .returned (.bool (eqIs xs ys)) ∧ Below w.heap.size w w' := (sameInts_any v u xs ys w h h').mono fun _ _ ⟨he, m, hm⟩ => ⟨he, by rw [hm]; exact below_drewN (Below.refl _ _) m⟩
set_option maxHeartbeats 2000000 in
theorem sameLists_any (v u : Value) (xs ys : List (List Int)) (w : World) (h : IntSS w v xs) (h' : IntSS w u ys) :
  Calls Tryz.prog 11 #[v, u] w fun e w' => e = .returned (.bool (decide (xs = ys))) ∧ Below w.heap.size w w' := by
 obtain ⟨A, c, rfl, hlc, hm, hA⟩ := h
 obtain ⟨B, d, rfl, hld, hmd, hB⟩ := h'
 unfold maxLen at hm hmd
 have HA := Lib.hid hA
 have HB := Lib.hid hB
 clear hA hB
 by_cases hl : xs.length = ys.length
 ·have Hl := Lib.hid hl
  have hl1 : xs.length ≤ ys.length := by omega
  have hl2 : ys.length ≤ xs.length := by omega
  have hb : ((xs.length : Int) != (ys.length : Int)) = false := by simp [hl]
  clear hl
  go_enter Tryz.func11, Tryz.ntmps11
  go_wp2
  go_loopw [13] (fun i wr => ∃ k : Nat, k ≤ xs.length ∧ i = .int .i64 k ∧ xs.take k = ys.take k ∧ Below w.heap.size w wr) (fun i _ => xs.length - (intOf i).toNat)
  case atStart => exact ⟨0, Nat.zero_le _, rfl, by simp, Below.refl _ _⟩
  case round =>
   obtain ⟨k, hk, rfl, heq, hbl⟩ := hrel
   have Heq := Lib.hid heq
   have Hbl := Lib.hid hbl
   clear heq hbl
   by_cases hlt : k < xs.length
   ·have hlt2 : k < ys.length := by omega
    obtain ⟨x, hx⟩ := getx xs k hlt
    obtain ⟨y, hy⟩ := getx ys k hlt2
    obtain ⟨b, off, u1, rfl, hc1, hr1⟩ := HA.out k x hx
    obtain ⟨b', off', u2, rfl, hc2, hr2⟩ := HB.out k y hy
    have k1 := bc Hbl.out hc1
    have k2 := bc Hbl.out hc2
    have Hr1 := Lib.hid (hr1.keep Hbl.out)
    have Hr2 := Lib.hid (hr2.keep Hbl.out)
    obtain ⟨A1, z1, rfl, _⟩ := hr1
    obtain ⟨A2, z2, rfl, _⟩ := hr2
    clear hc1 hc2
    have Hx := Lib.hid hx
    have Hy := Lib.hid hy
    clear hx hy
    cases hxy : eqIs x y
    all_goals
     have Hxy := Lib.hid hxy
     clear hxy
     go_wp2
     go_region_held3 (fun w' => w'.cell? ⟨b, off + k, none⟩ = some (.slice A1 x.length z1) ∧ w'.cell? ⟨b', off' + k, none⟩ = some (.slice A2 y.length z2)) (first | exact ⟨k1, k2⟩ | exact ⟨bc hb1 k1, bc hb1 k2⟩)
      (first | (go_at_call 16; refine (sameInts_b _ _ x y _ (by exact Hr1.out) (by exact Hr2.out)).mono ?_; rintro e w1 ⟨rfl, hb1⟩; rw [Hxy.out]))
     have Hb2 := Lib.hid (Hbl.out.drew.trans (hb1.mono (show w.heap.size ≤ wr.heap.size from Hbl.out.size)))
     clear hb1
     go_wp2
    ·go_ret
     refine ⟨ret_false (decide_eq_false fun e => ?_), Hb2.out⟩
     have h1 := Hx.out
     rw [e, Hy.out] at h1
     have h2 := Hxy.out
     simp [eqIs] at h1 h2
     exact h2 h1.symm
    ·go_roundw
     case rel => exact ⟨k + 1, by omega, by go_num, by rw [take_snoc Hx.out, take_snoc Hy.out, Heq.out, show x = y by simpa [eqIs] using Hxy.out], Hb2.out⟩
     case measure => simp [intOf]; omega
   ·go_wp2
    go_ret
    exact ⟨ret_true (decide_eq_true (eq_of_takes Hl.out Heq.out hlt)), Hbl.out⟩
 ·have hb : ((xs.length : Int) != (ys.length : Int)) = true := by simp; omega
  have Hl := Lib.hid hl
  clear hl
  go_enter Tryz.func11, Tryz.ntmps11
  go_wp2
  go_ret
  exact ⟨ret_false (decide_eq_false fun e => Hl.out (by rw [e])), Below.refl _ _⟩
theorem sameLists_same (v u : Value) (xs : List (List Int)) (w : World) (h : IntSS w v xs) (h' : IntSS w u xs) :
  Calls Tryz.prog 11 #[v, u] w fun e w' => e = .returned (.bool true) ∧ Below w.heap.size w w' :=
 (sameLists_any v u xs xs w h h').mono fun e w' ⟨he, hb⟩ => ⟨by rw [he]; simp, hb⟩
theorem sameInts_same (v u : Value) (xs : List Int) (w : World) (h : IntS w v xs) (h' : IntS w u xs) :
  Calls Tryz.prog 16 #[v, u] w fun e w' => e = .returned (.bool true) ∧ Below w.heap.size w w' :=
 (sameInts_b v u xs xs w h h').mono fun e w' ⟨he, hb⟩ => ⟨by rw [he]; simp [eqIs], hb⟩
end Go.Proofs.YtgmdpppljkmabaaGreat
