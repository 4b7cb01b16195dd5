/- Parts of the proof: walks of functions and plain laws. -/
import Derived.Test.YthgbobikbdklhaaP4
import Derived.Test.YthgbobikbdklhaaP11
namespace Go.Proofs.Ythgbobikbdklhaa
open Go.RowKit
set_option maxRecDepth 100000 in
set_option maxHeartbeats 16000000 in
theorem fnExactCrossEdges_walk (w : World) (ve vi vn : Value) (n : Net) (ni : NetIn w ve vi vn n) (_ : Net64 n) (a1 : Int) (ba1 : -9223372036854775808 ≤ a1 ∧ a1 ≤ 9223372036854775807) (a2 : Int) (ba2 : -9223372036854775808 ≤ a2 ∧ a2 ≤ 9223372036854775807) (a3 : Int) (ba3 : -9223372036854775808 ≤ a3 ∧ a3 ≤ 9223372036854775807) (a4 : Int) (ba4 : -9223372036854775808 ≤ a4 ∧ a4 ≤ 9223372036854775807) :
    Calls Try.prog 5 #[.agg #[ve, vi, vn], .int .i64 a1, .int .i64 a2, .int .i64 a3, .int .i64 a4] w fun e w' => e = .returned (.bool true) ∧ Below w.heap.size w w' := by
  obtain ⟨w0, hw0⟩ : ∃ w0, w0 = (w).alloc (.cells #[ve, vi, vn] 25) := ⟨_, rfl⟩
  have hb0 : Below w.heap.size w w0 := by rw [hw0]; exact ((Below.refl _ _).alloc (by simp) _)
  have H := Lib.hid (ni.keep hb0)
  obtain ⟨h1, h2, h3⟩ := ni.keep hb0
  obtain ⟨A, c, rfl, hlc, hm, hA⟩ := h1
  obtain ⟨A2, c2, rfl, _, hm2, _⟩ := h2
  obtain ⟨A3, c3, rfl, _, hm3, _⟩ := h3
  unfold maxLen at hm hm2 hm3
  have p00 : ∀ W, Since w0 W → W.cell? ⟨w.heap.size, 0, none⟩ = some (.slice A n.ends.length c) := have_cell (by rw [hw0]; simp)
  have p01 : ∀ W, Since w0 W → W.cell? ⟨w.heap.size, 1, none⟩ = some (.slice A2 n.ids.length c2) := have_cell (by rw [hw0]; simp)
  have p02 : ∀ W, Since w0 W → W.cell? ⟨w.heap.size, 2, none⟩ = some (.slice A3 n.inputs.length c3) := have_cell (by rw [hw0]; simp)
  have Hb0 := Lib.hid hb0
  have Hw0 := Lib.hid hw0
  have HA := Lib.hid hA
  clear hA ni
  clear hb0 hw0
  obtain ⟨zz, hc⟩ : ∃ c : Bool, fnExactCrossEdges_r1 n a1 a2 a3 a4 = c := ⟨_, rfl⟩
  have Hc := Lib.hid hc
  clear hc
  obtain ⟨rs, hrs⟩ : ∃ rs : Net, fnExactCrossEdges_d n a1 a2 a3 a4 = rs := ⟨_, rfl⟩
  have Hrs := Lib.hid hrs
  clear hrs
  go_enter Try.func5, Try.ntmps5
  go_upto_region 1 with (fail)
  rw [← Hw0.out]
  have hs0 : Since w0 w0 := since_refl _
  go_wp2_with fail
  by_cases hszn : ¬ szNet n ≤ 1048576
  · refine (szNetwork_any _ _ _ n _ (by omega) (by omega) _ H.out).mono ?_
    rw [left_bad hszn]
    rintro e W1 ⟨rfl, hb1⟩
    have HS := Lib.hid (Since.after Hb0.out hb1)
    clear hb1 hs0
    go_wp2_with fail
    go_ret
    exact ⟨rfl, HS.out⟩
  have hsz := Decidable.of_not_not hszn
  clear hszn
  obtain ⟨q, hq, hq0⟩ := left_ok hsz
  refine (szNetwork_any _ _ _ n _ (by omega) (by omega) _ H.out).mono ?_
  rw [hq]
  rintro e W1 ⟨rfl, hb1⟩
  have hs1 : Since w0 W1 := hb1
  clear hb1 hs0 hq
  go_wp2_with fail
  refine (toNetwork_any _ _ _ n _ (H.out.keep hs1.below) hsz).mono ?_
  rintro e W2 ⟨ves, vis, vns, Ss, rfl, hos, hbs⟩
  obtain ⟨Bsa, dsa, rfl, _⟩ := id hos.read.1
  obtain ⟨Bsb, dsb, rfl, _⟩ := id hos.read.2.1
  obtain ⟨Bsc, dsc, rfl, _⟩ := id hos.read.2.2
  have hs2 : Since w0 W2 := hs1.trans hbs
  have HNs := Lib.hid hos.read
  clear hos hbs hs1
  go_wp2_with fail
  refine (fnExactCrossEdges_spec _ _ _ n a1 a2 a3 a4 _ HNs.out ba1 ba2 ba3 ba4 hsz).mono ?_
  simp only [Hc.out, Hrs.out]
  rintro e W4 ⟨uwe, uwi, uwn, Sw, rfl, how, hbw⟩
  obtain ⟨Bwa, dwa, rfl, _⟩ := id how.read.1
  obtain ⟨Bwb, dwb, rfl, _⟩ := id how.read.2.1
  obtain ⟨Bwc, dwc, rfl, _⟩ := id how.read.2.2
  have hs4 : Since w0 W4 := hs2.trans hbw
  clear hbw hs2 HNs
  go_wp2_with fail
  obtain ⟨W5, hW5⟩ : ∃ X, X = W4.alloc (.cells #[.slice Bwa rs.ends.length dwa, .slice Bwb rs.ids.length dwb, .slice Bwc rs.inputs.length dwc] 32) := ⟨_, rfl⟩
  rw [← hW5]
  have hs45 : Since W4 W5 := by rw [hW5]; exact since_alloc _ (since_refl _)
  have hs5 : Since w0 W5 := hs4.after hs45
  have y0 : ∀ X, Since W5 X → X.cell? ⟨W4.heap.size, 0, none⟩ = some (.slice Bwa rs.ends.length dwa) := have_cell (by rw [hW5]; simp)
  have y1 : ∀ X, Since W5 X → X.cell? ⟨W4.heap.size, 1, none⟩ = some (.slice Bwb rs.ids.length dwb) := have_cell (by rw [hW5]; simp)
  have y2 : ∀ X, Since W5 X → X.cell? ⟨W4.heap.size, 2, none⟩ = some (.slice Bwc rs.inputs.length dwc) := have_cell (by rw [hW5]; simp)
  have HW := Lib.hid (show ∀ X, Since W5 X → NetIn X (.slice Bwa rs.ends.length dwa) (.slice Bwb rs.ids.length dwb) (.slice Bwc rs.inputs.length dwc) rs from fun X hX => how.read.keep (hs45.after hX).below)
  have Hs4 := Lib.hid hs5
  have g00 := lift_cell p00 hs5
  have g01 := lift_cell p01 hs5
  have g02 := lift_cell p02 hs5
  have HA4 := Lib.hid (show ∀ X, Since W5 X → NetIn X (.slice A n.ends.length c) (.slice A2 n.ids.length c2) (.slice A3 n.inputs.length c3) n from fun X hX => H.out.keep (Hs4.out.after hX).below)
  have hz : Since W5 W5 := since_refl _
  clear hW5 hs45 how hs4 hs5 p00 p01 p02
  refine (toNetwork_any _ _ _ n _ (HA4.out _ hz) hsz).mono ?_
  rintro e W6 ⟨vex, vix, vnx, Sx, rfl, hox, hbx⟩
  obtain ⟨Bxa, dxa, rfl, _⟩ := id hox.read.1
  obtain ⟨Bxb, dxb, rfl, _⟩ := id hox.read.2.1
  obtain ⟨Bxc, dxc, rfl, _⟩ := id hox.read.2.2
  have hy : Since W5 W6 := hz.trans hbx
  go_upto_region 7 with (fail)
  obtain ⟨w6, hw6⟩ : ∃ w6, w6 = W6.alloc (.cells #[.slice Bxa n.ends.length dxa, .slice Bxb n.ids.length dxb, .slice Bxc n.inputs.length dxc] 32) := ⟨_, rfl⟩
  rw [← hw6]
  have hs56 : Since W6 w6 := by rw [hw6]; exact since_alloc _ (since_refl _)
  have hz6 : Since W5 w6 := hy.after hs56
  have x0 : ∀ X, Since w6 X → X.cell? ⟨W6.heap.size, 0, none⟩ = some (.slice Bxa n.ends.length dxa) := have_cell (by rw [hw6]; simp)
  have x1 : ∀ X, Since w6 X → X.cell? ⟨W6.heap.size, 1, none⟩ = some (.slice Bxb n.ids.length dxb) := have_cell (by rw [hw6]; simp)
  have x2 : ∀ X, Since w6 X → X.cell? ⟨W6.heap.size, 2, none⟩ = some (.slice Bxc n.inputs.length dxc) := have_cell (by rw [hw6]; simp)
  have HX := Lib.hid (show ∀ X, Since w6 X → OwnNet X W5.heap.size (.slice Bxa n.ends.length dxa) (.slice Bxb n.ids.length dxb) (.slice Bxc n.inputs.length dxc) n Sx from fun X hX => (hox.keep (hs56.after hX).below).mono (Since.below hz).size)
  have hsx : ∀ k ∈ Sx, W5.heap.size ≤ k ∧ k < W6.heap.size := fun k hk => ⟨Nat.le_trans (Since.below hz).size (hox.range k hk).1, (hox.range k hk).2⟩
  have HSx := Lib.hid hsx
  have hw56 : w6.heap.size = W6.heap.size + 1 := by rw [hw6]; simp
  have Hw56 := Lib.hid hw56
  have Hbase := Lib.hid (Since.below hz6).size
  clear hw6 hs56 hox hbx hy hsx hw56 hz
  have hz := hz6
  clear hz6
  have hx : Since w6 w6 := since_refl _
  go_wp2_with fail
  refine (fnExactCrossEdges_impl _ _ _ n a1 a2 a3 a4 _ (HX.out _ hx).read ba1 ba2 ba3 ba4 hsz).mono ?_
  simp only [Hc.out, Hrs.out]
  rintro e W8 ⟨uge, ugi, ugn, Sg, rfl, hog, hb8⟩
  obtain ⟨Bga, dga, rfl, _⟩ := id hog.read.1
  obtain ⟨Bgb, dgb, rfl, _⟩ := id hog.read.2.1
  obtain ⟨Bgc, dgc, rfl, _⟩ := id hog.read.2.2
  have hsg : ∀ j ∈ Sg, w6.heap.size ≤ j ∧ j < W8.heap.size := hog.range
  go_upto_region 8 with (fail)
  obtain ⟨w9, hw9⟩ : ∃ X, X = W8.alloc (.cells #[.slice Bga rs.ends.length dga, .slice Bgb rs.ids.length dgb, .slice Bgc rs.inputs.length dgc] 32) := ⟨_, rfl⟩
  rw [← hw9]
  have hs89 : Since W8 w9 := by rw [hw9]; exact since_alloc _ (since_refl _)
  have hz8 : Since W5 w9 := (hz.trans hb8).after hs89
  have hx8 : Since w6 w9 := (hx.trans hb8).after hs89
  have hg8 : Since w9 w9 := since_refl _
  have z0 : ∀ X, Since w9 X → X.cell? ⟨W8.heap.size, 0, none⟩ = some (.slice Bga rs.ends.length dga) := have_cell (by rw [hw9]; simp)
  have z1 : ∀ X, Since w9 X → X.cell? ⟨W8.heap.size, 1, none⟩ = some (.slice Bgb rs.ids.length dgb) := have_cell (by rw [hw9]; simp)
  have z2 : ∀ X, Since w9 X → X.cell? ⟨W8.heap.size, 2, none⟩ = some (.slice Bgc rs.inputs.length dgc) := have_cell (by rw [hw9]; simp)
  have HG := Lib.hid (show ∀ X, Since w9 X → OwnNet X w6.heap.size (.slice Bga rs.ends.length dga) (.slice Bgb rs.ids.length dgb) (.slice Bgc rs.inputs.length dgc) rs Sg from fun X hX => hog.keep (hs89.after hX).below)
  have HSg := Lib.hid hsg
  have Hgx := Lib.hid (show w6.heap.size ≤ W8.heap.size from (Since.below (hx.trans hb8)).size)
  clear hw9 hs89 hog hb8 hsg hz hx
  go_wp2_with fail
  refine (eqNetwork_same _ _ _ _ _ _ rs _ (HG.out _ hg8).read (HW.out _ hz8)).mono ?_
  rintro e W10 ⟨rfl, hb9⟩
  have hz8' := Since.trans hz8 hb9
  have hx8' := Since.trans hx8 hb9
  have hg8' := Since.trans hg8 hb9
  clear hz8 hx8 hg8 hb9
  have hz8 := hz8'
  clear hz8'
  have hx8 := hx8'
  clear hx8'
  have hg8 := hg8'
  clear hg8'
  go_upto_region 10 with (fail)
  have r0 := lift_cell x0 hx8
  have r1 := lift_cell x1 hx8
  have r2 := lift_cell x2 hx8
  have q00 := lift_cell g00 hz8
  have q01 := lift_cell g01 hz8
  have q02 := lift_cell g02 hz8
  have Hz8 := Lib.hid hz8
  have Hx8 := Lib.hid hx8
  have Hg8 := Lib.hid hg8
  have HG0 := Lib.hid (And.intro x0 (And.intro x1 (And.intro x2 (And.intro g00 (And.intro g01 g02)))))
  have HY0 := Lib.hid (And.intro y0 (And.intro y1 (And.intro y2 (And.intro z0 (And.intro z1 z2)))))
  clear x0 x1 x2 g00 g01 g02 y0 y1 y2 z0 z1 z2 hz8 hx8 hg8
  refine wp_region_one (w0 := W10) 2 rfl (fun W u => ∃ a b c, u = .agg #[a, b, c] ∧ NetIn W a b c n) (fun W W' u h hs => by obtain ⟨a, b, c, rfl, h⟩ := h; exact ⟨a, b, c, rfl, h.keep hs⟩) (by kernel_rfl) (by kernel_rfl) (by kernel_rfl) (by simp) (since_refl _) ?_
  simp only [List.take_succ_cons, List.take_zero, List.drop_succ_cons, List.drop_zero]
  refine pflow_val (v := ?_) rfl ?_ ?_; rotate_left; (intro W hW; go_simp; with_reducible rfl)
  simp only [Act.put, List.setIfInBounds_toArray, List.set_cons_succ, List.set_cons_zero]
  refine pflow_val (v := ?_) rfl ?_ ?_; rotate_left; (intro W hW; go_simp; with_reducible rfl)
  simp only [Act.put, List.setIfInBounds_toArray, List.set_cons_succ, List.set_cons_zero]
  refine ⟨⟨rfl, fun W hW => ?_⟩, fun u => ?_⟩
  · unfold GivesAny
    go_simp
    refine (toNetwork_any _ _ _ n W ((fun W hW => HA4.out W (Hz8.out.after hW)) W hW) hsz).mono ?_
    rintro e W' ⟨a, b, c, S, rfl, ho, hb⟩
    exact ⟨_, rfl, ⟨a, b, c, rfl, ho.read⟩, hb⟩
  simp only [Act.put, List.setIfInBounds_toArray, List.set_cons_succ, List.set_cons_zero]
  (try simp only [List.getElem_toArray, List.getElem_cons_succ, List.getElem_cons_zero])
  (try simp only [Act.put, List.setIfInBounds_toArray, List.set_cons_succ, List.set_cons_zero])
  refine flow_op (.bool true) rfl (fun W hW => ?_) ?_
  · have hS := hW.1
    have hR := Lib.hid hW.2
    clear hW
    unfold Gives
    go_simp
    obtain ⟨a, b, c, hu, hN⟩ := hR.out
    rw [hu]
    refine (eqNetwork_same _ _ _ _ _ _ n W ((fun W hW => (HX.out W (Hx8.out.after hW)).read) W hS) hN).mono ?_
    rintro e W' ⟨rfl, hb⟩
    exact ⟨rfl, hS.trans hb, a, b, c, rfl, hN.keep hb⟩
  simp only [Act.put, List.setIfInBounds_toArray, List.set_cons_succ, List.set_cons_zero]
  refine flow_val (v := .bool false) rfl (fun W hW => by go_simp) ?_
  simp only [Act.put, List.setIfInBounds_toArray, List.set_cons_succ, List.set_cons_zero]
  intro W9 hW9 _
  clear r0 r1 r2 q00 q01 q02
  obtain ⟨x0, x1, x2, g00, g01, g02⟩ := HG0.out
  obtain ⟨y0, y1, y2, z0, z1, z2⟩ := HY0.out
  have hz8 := Since.after Hz8.out hW9
  have hx8 := Since.after Hx8.out hW9
  have hg8 := Since.after Hg8.out hW9
  clear hW9 HG0 HY0 Hz8 Hx8 Hg8
  obtain ⟨kq, hkq⟩ : ∃ kq, kq = 1 + cntNet n := ⟨_, rfl⟩
  have Hk := Lib.hid hkq
  have hk1 : ((kq : Int) < 0) = False := by simp
  clear hkq
  have Hrl := Lib.hid (show cntNet rs ≤ 1000000000 from by rw [← Hrs.out]; exact fnExactCrossEdges_dl n a1 a2 a3 a4 hsz)
  have hcn := cnt_sz hsz
  have Hcn := Lib.hid hcn
  clear hcn
  go_wp2_with fail
  refine (markNetwork_any _ _ _ n 1 _ _ Sx (HX.out _ hx8) (by have := Hcn.out; omega)).mono ?_
  rw [← Hk.out]
  rintro e W12 ⟨rfl, hom, hon⟩
  have hz9 : Since W5 W12 := Below.trans hz8 (Only.below hon _ (Since.below hz8).size (fun j hj => (HSx.out j hj).1))
  have hnx : W8.heap.size ∉ Sx := fun hj => by have := (HSx.out _ hj).2; have := Hw56.out; have := Hgx.out; omega
  have hog : OwnNet W12 w6.heap.size (.slice Bga rs.ends.length dga) (.slice Bgb rs.ids.length dgb) (.slice Bgc rs.inputs.length dgc) rs Sg := (HG.out _ hg8).stable (fun j hj => hon.block j ((HG.out _ hg8).range j hj).2 (fun hs => by have := (HSx.out j hs).2; have := (HSg.out j hj).1; have := Hw56.out; omega))
  have zz0 := have_cell (hon.cell hnx (z0 _ hg8))
  have zz1 := have_cell (hon.cell hnx (z1 _ hg8))
  have zz2 := have_cell (hon.cell hnx (z2 _ hg8))
  have h12 : Since W12 W12 := since_refl _
  have Ho := Lib.hid hog
  clear hon hom hz8 hx8 hg8 x0 x1 x2 hog z0 z1 z2 hnx
  go_wp2_with fail
  refine (eqNetwork_same _ _ _ _ _ _ rs _ Ho.out.read (HW.out _ hz9)).mono ?_
  rintro e W13 ⟨rfl, hb9⟩
  have Ho2 := Lib.hid (Ho.out.keep hb9)
  clear Ho
  have hz9' := Since.trans hz9 hb9
  have h12' := Since.trans h12 hb9
  clear hz9 h12 hb9
  have hz9 := hz9'
  clear hz9'
  have h12 := h12'
  clear h12'
  obtain ⟨km, hkm⟩ : ∃ z, z = 1 + cntNet rs := ⟨_, rfl⟩
  have Hkm := Lib.hid hkm
  have hkmx : ((km : Int) < 0) = False := by simp
  clear hkm
  go_wp2_with fail
  refine (markNetwork_any _ _ _ rs 1 _ _ Sg Ho2.out (by have := Hrl.out; omega)).mono ?_
  rw [← Hkm.out]
  rintro e W14 ⟨rfl, hom, hon⟩
  have hz10 : Since W5 W14 := Below.trans hz9 (Only.below hon _ (Since.below hz9).size (fun j hj => by have := (HSg.out j hj).1; have := Hbase.out; omega))
  have hng : W8.heap.size ∉ Sg := fun hj => by have := (HSg.out _ hj).2; omega
  have t0 := have_cell (hon.cell hng (zz0 _ h12))
  have t1 := have_cell (hon.cell hng (zz1 _ h12))
  have t2 := have_cell (hon.cell hng (zz2 _ h12))
  have HM := Lib.hid (show ∀ X, Since W14 X → NetIn X (.slice Bga rs.ends.length dga) (.slice Bgb rs.ids.length dgb) (.slice Bgc rs.inputs.length dgc) (mkNet 1 rs) from fun X hX => by have := hom.read.keep hX.below; exact this)
  have hm : Since W14 W14 := since_refl _
  clear hom hon hz9 h12 zz0 zz1 zz2 hng Ho2
  have hz9 := hz10
  clear hz10
  go_wp2_with fail
  refine (heldNetwork_any _ _ _ rs 1 _ (HM.out _ hm) (by have := Hrl.out; omega)).mono ?_
  rw [← Hkm.out]
  rintro e W15 ⟨rfl, hb9⟩
  have hz9' := Since.trans hz9 hb9
  have hm' := Since.trans hm hb9
  clear hz9 hm hb9
  have hz9 := hz9'
  clear hz9'
  have hm := hm'
  clear hm'
  go_wp2_with fail
  refine (toNetwork_any _ _ _ n _ (HA4.out _ hz9) hsz).mono ?_
  rintro e W16 ⟨vet, vit, vnt, St, rfl, hot, hbt⟩
  obtain ⟨Bta, dta, rfl, _⟩ := id hot.read.1
  obtain ⟨Btb, dtb, rfl, _⟩ := id hot.read.2.1
  obtain ⟨Btc, dtc, rfl, _⟩ := id hot.read.2.2
  have HNt := Lib.hid hot.read
  have hz9' := Since.trans hz9 hbt
  have hm' := Since.trans hm hbt
  clear hz9 hm hbt
  have hz9 := hz9'
  clear hz9'
  have hm := hm'
  clear hm'
  clear hot
  go_wp2_with fail
  refine (fnExactCrossEdges_impl _ _ _ n a1 a2 a3 a4 _ HNt.out ba1 ba2 ba3 ba4 hsz).mono ?_
  simp only [Hc.out, Hrs.out]
  rintro e W17 ⟨uhe, uhi, uhn, Sh, rfl, hoh, hbh⟩
  obtain ⟨Bha, dha, rfl, _⟩ := id hoh.read.1
  obtain ⟨Bhb, dhb, rfl, _⟩ := id hoh.read.2.1
  obtain ⟨Bhc, dhc, rfl, _⟩ := id hoh.read.2.2
  have hz9' := Since.trans hz9 hbh
  have hm' := Since.trans hm hbh
  clear hz9 hm hbh
  have hz9 := hz9'
  clear hz9'
  have hm := hm'
  clear hm'
  go_upto_region 25 with (fail)
  obtain ⟨w18, hw18⟩ : ∃ X, X = W17.alloc (.cells #[.slice Bha rs.ends.length dha, .slice Bhb rs.ids.length dhb, .slice Bhc rs.inputs.length dhc] 32) := ⟨_, rfl⟩
  rw [← hw18]
  have hs18 : Since W17 w18 := by rw [hw18]; exact since_alloc _ (since_refl _)
  have u0 : ∀ X, Since w18 X → X.cell? ⟨W17.heap.size, 0, none⟩ = some (.slice Bha rs.ends.length dha) := have_cell (by rw [hw18]; simp)
  have u1 : ∀ X, Since w18 X → X.cell? ⟨W17.heap.size, 1, none⟩ = some (.slice Bhb rs.ids.length dhb) := have_cell (by rw [hw18]; simp)
  have u2 : ∀ X, Since w18 X → X.cell? ⟨W17.heap.size, 2, none⟩ = some (.slice Bhc rs.inputs.length dhc) := have_cell (by rw [hw18]; simp)
  have HH := Lib.hid (hoh.read.keep hs18.below)
  have h18 : Since w18 w18 := since_refl _
  have hz10 := Since.after hz9 hs18
  have hm10 := Since.after hm hs18
  clear hw18 hs18 hoh hz9 hm
  go_wp2_with fail
  refine (eqNetwork_same _ _ _ _ _ _ rs _ HH.out (HW.out _ hz10)).mono ?_
  rintro e W19 ⟨rfl, hb9⟩
  clear u0 u1 u2 h18
  have hz10' := Since.trans hz10 hb9
  have hm10' := Since.trans hm10 hb9
  clear hz10 hm10 hb9
  have hz10 := hz10'
  clear hz10'
  have hm10 := hm10'
  clear hm10'
  go_wp2_with fail
  refine (heldNetwork_any _ _ _ rs 1 _ (HM.out _ hm10) (by have := Hrl.out; omega)).mono ?_
  rw [← Hkm.out]
  rintro e W20 ⟨rfl, hb9⟩
  have hz10' := Since.trans hz10 hb9
  have hm10' := Since.trans hm10 hb9
  clear hz10 hm10 hb9
  have hz10 := hz10'
  clear hz10'
  have hm10 := hm10'
  clear hm10'
  go_wp2_with fail
  go_ret
  exact ⟨rfl, Since.after Hb0.out (Hs4.out.after hz10)⟩
end Go.Proofs.Ythgbobikbdklhaa
