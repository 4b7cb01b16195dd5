/- Parts of the proof: walks of functions and plain laws. -/
import Derived.Test.YtfkmkpamdlhbgaaGreatP4
import Derived.Test.YtfkmkpamdlhbgaaGreatP19
import Derived.Test.YtfkmkpamdlhbgaaGreatP24
namespace Go.Proofs.YtfkmkpamdlhbgaaGreat
open Go.RowKit
set_option maxRecDepth 100000 in
set_option maxHeartbeats 16000000 in
theorem fnExactProveProperty_walk (w : World) (ve vi vn : Value) (n : Net) (ni : NetIn w ve vi vn n) (_ : Net64 n) (a1 : Int) (ba1 : -9223372036854775808 ≤ a1 ∧ a1 ≤ 9223372036854775807) :
    Calls Tryz.prog 4 #[.agg #[ve, vi, vn], .int .i64 a1] w fun e w' => e = .returned (.bool true) ∧ Below w.heap.size w w' := by
  obtain ⟨w0, hw0⟩ : ∃ w0, w0 = (w).alloc (.cells #[ve, vi, vn] 47) := ⟨_, rfl⟩
  have hb0 : Below w.heap.size w w0 := by rw [hw0]; exact ((Below.refl _ _).alloc (by simp) _)
  have H := Lib.hid (ni.keep hb0)
  obtain ⟨h1, h2, h3⟩ := ni.keep hb0
  obtain ⟨A, c, rfl, hlc, hm, hA⟩ := h1
  obtain ⟨A2, c2, rfl, _, hm2, _⟩ := h2
  obtain ⟨A3, c3, rfl, _, hm3, _⟩ := h3
  unfold maxLen at hm hm2 hm3
  have p00 : ∀ W, Since w0 W → W.cell? ⟨w.heap.size, 0, none⟩ = some (.slice A n.ends.length c) := have_cell (by rw [hw0]; simp)
  have p01 : ∀ W, Since w0 W → W.cell? ⟨w.heap.size, 1, none⟩ = some (.slice A2 n.ids.length c2) := have_cell (by rw [hw0]; simp)
  have p02 : ∀ W, Since w0 W → W.cell? ⟨w.heap.size, 2, none⟩ = some (.slice A3 n.inputs.length c3) := have_cell (by rw [hw0]; simp)
  have Hb0 := Lib.hid hb0
  have Hw0 := Lib.hid hw0
  have HA := Lib.hid hA
  clear hA ni
  clear hb0 hw0
  obtain ⟨zz1, hc1⟩ : ∃ c : Bool, fnExactProveProperty_r1 n a1 = c := ⟨_, rfl⟩
  have Hc1 := Lib.hid hc1
  clear hc1
  obtain ⟨rs, hrs⟩ : ∃ rs, fnExactProveProperty_d n a1 = rs := ⟨_, rfl⟩
  have Hrs := Lib.hid hrs
  clear hrs
  go_enter Tryz.func4, Tryz.ntmps4
  go_upto_region 1 with (fail)
  rw [← Hw0.out]
  have hs0 : Since w0 w0 := since_refl _
  go_wp2_with fail
  by_cases hszn : ¬ szNet n ≤ 1048576
  · refine (szNetwork_any _ _ _ n _ (by omega) (by omega) _ H.out).mono ?_
    rw [left_bad hszn]
    rintro e W1 ⟨rfl, hb1⟩
    have HS := Lib.hid (Since.after Hb0.out hb1)
    clear hb1 hs0
    go_wp2_with fail
    go_ret
    exact ⟨rfl, HS.out⟩
  have hsz := Decidable.of_not_not hszn
  clear hszn
  obtain ⟨q, hq, hq0⟩ := left_ok hsz
  refine (szNetwork_any _ _ _ n _ (by omega) (by omega) _ H.out).mono ?_
  rw [hq]
  rintro e W1 ⟨rfl, hb1⟩
  have hs1 : Since w0 W1 := hb1
  clear hb1 hs0 hq
  go_wp2_with fail
  refine (toNetwork_any _ _ _ n _ (H.out.keep (hs1).below) hsz).mono ?_
  rintro e W2 ⟨ves, vis, vns, Ss, rfl, hos, hbs⟩
  obtain ⟨Bsa, dsa, rfl, _⟩ := id hos.read.1
  obtain ⟨Bsb, dsb, rfl, _⟩ := id hos.read.2.1
  obtain ⟨Bsc, dsc, rfl, _⟩ := id hos.read.2.2
  have hs2 : Since w0 W2 := (hs1).trans hbs
  have HNs := Lib.hid (show ∀ X, Since W2 X → NetIn X (.slice Bsa n.ends.length dsa) (.slice Bsb n.ids.length dsb) (.slice Bsc n.inputs.length dsc) n from fun X hX => hos.read.keep hX.below)
  clear hos hbs hs1
  go_wp2_with fail
  refine (fnExactProveProperty_spec _ _ _ n a1 _ (HNs.out _ (since_refl _)) ba1 hsz ).mono ?_
  simp only [Hc1.out, Hrs.out]
  rintro e W3 ⟨uw, rfl, how, hbw⟩
  have hs3 : Since w0 W3 := (hs2).trans hbw
  have HW := Lib.hid (show ∀ X, Since W3 X → IntS X uw rs from fun X hX => how.ints.keep hX.below)
  obtain ⟨Bw, dw, rfl, _⟩ := id how.ints
  clear how hbw hs2 HNs
  have Hs4 := Lib.hid hs3
  have g00 := lift_cell p00 hs3
  have g01 := lift_cell p01 hs3
  have g02 := lift_cell p02 hs3
  have HA4 := Lib.hid (show ∀ X, Since W3 X → NetIn X (.slice A n.ends.length c) (.slice A2 n.ids.length c2) (.slice A3 n.inputs.length c3) n from fun X hX => H.out.keep (Hs4.out.after hX).below)
  have hz : Since W3 W3 := since_refl _
  clear p00 p01 p02 hs3
  go_wp2_with fail
  refine (toNetwork_any _ _ _ n _ (HA4.out _ hz) hsz).mono ?_
  rintro e W4 ⟨vex, vix, vnx, Sx, rfl, hox, hbx⟩
  obtain ⟨Bxa, dxa, rfl, _⟩ := id hox.read.1
  obtain ⟨Bxb, dxb, rfl, _⟩ := id hox.read.2.1
  obtain ⟨Bxc, dxc, rfl, _⟩ := id hox.read.2.2
  have hy : Since W3 W4 := (hz).trans hbx
  go_wp2_with fail
  obtain ⟨w6, hw6⟩ : ∃ w6, w6 = W4.alloc (.cells #[.slice Bxa n.ends.length dxa, .slice Bxb n.ids.length dxb, .slice Bxc n.inputs.length dxc] 27) := ⟨_, rfl⟩
  rw [← hw6]
  have hs56 : Since W4 w6 := by rw [hw6]; exact since_alloc _ (since_refl _)
  have hz6 : Since W3 w6 := hy.after hs56
  have x0 : ∀ X, Since w6 X → X.cell? ⟨W4.heap.size, 0, none⟩ = some (.slice Bxa n.ends.length dxa) := have_cell (by rw [hw6]; simp)
  have x1 : ∀ X, Since w6 X → X.cell? ⟨W4.heap.size, 1, none⟩ = some (.slice Bxb n.ids.length dxb) := have_cell (by rw [hw6]; simp)
  have x2 : ∀ X, Since w6 X → X.cell? ⟨W4.heap.size, 2, none⟩ = some (.slice Bxc n.inputs.length dxc) := have_cell (by rw [hw6]; simp)
  have HX := Lib.hid (show ∀ X, Since w6 X → OwnNet X W3.heap.size (.slice Bxa n.ends.length dxa) (.slice Bxb n.ids.length dxb) (.slice Bxc n.inputs.length dxc) n Sx from fun X hX => (hox.keep (hs56.after hX).below).mono (Since.below (hz)).size)
  have hsx : ∀ k ∈ Sx, W3.heap.size ≤ k ∧ k < W4.heap.size := fun k hk => ⟨Nat.le_trans (Since.below (hz)).size (hox.range k hk).1, (hox.range k hk).2⟩
  have HSx := Lib.hid hsx
  have hw56 : w6.heap.size = W4.heap.size + 1 := by rw [hw6]; simp
  have Hw56 := Lib.hid hw56
  have Hbase := Lib.hid (Since.below hz6).size
  clear hw6 hs56 hox hbx hy hsx hw56 hz
  have hz := hz6
  clear hz6
  have hx : Since w6 w6 := since_refl _
  refine (fnExactProveProperty_impl _ _ _ n a1 _ (HX.out _ hx).read ba1 hsz ).mono ?_
  simp only [Hc1.out, Hrs.out]
  rintro e W5 ⟨ug, rfl, hog, hb8⟩
  have hz8 := hz.trans hb8
  have hx8 := hx.trans hb8
  have HG := Lib.hid (show ∀ X, Since W5 X → Own X w6.heap.size ug rs from fun X hX => (hog.since hX).mono (Since.below hx).size)
  have hsg : ∀ j, ug.ownBlock = some j → w6.heap.size ≤ j ∧ j < W5.heap.size := fun j hj => ⟨Nat.le_trans (Since.below hx).size (World.ownsRow.lt hog j hj).1, (World.ownsRow.lt hog j hj).2⟩
  have HSg := Lib.hid hsg
  obtain ⟨Bg, dg, rfl, _⟩ := id (hog).ints
  clear hsg hog
  clear hz hx hb8 
  have hg8 : Since W5 W5 := since_refl _
  go_wp2_with fail
  refine (eqIntS_same _ _ rs _ ((HG.out _ hg8)).ints (HW.out _ hz8)).mono ?_
  rintro e W6 ⟨rfl, hb9⟩
  have hz8' := Since.trans hz8 hb9
  have hx8' := Since.trans hx8 hb9
  have hg8' := Since.trans hg8 hb9
  clear hz8 hx8 hg8 hb9
  have hz8 := hz8'
  clear hz8'
  have hx8 := hx8'
  clear hx8'
  have hg8 := hg8'
  clear hg8'
  go_upto_region 10 with (fail)
  have r0 := lift_cell x0 hx8
  have r1 := lift_cell x1 hx8
  have r2 := lift_cell x2 hx8
  have q00 := lift_cell g00 hz8
  have q01 := lift_cell g01 hz8
  have q02 := lift_cell g02 hz8
  have Hz8 := Lib.hid hz8
  have Hx8 := Lib.hid hx8
  have Hg8 := Lib.hid hg8
  have HG0 := Lib.hid (And.intro x0 (And.intro x1 (And.intro x2 (And.intro g00 (And.intro g01 g02)))))
  clear x0 x1 x2 g00 g01 g02 hz8 hx8 hg8
  refine wp_region_one (w0 := W6) 2 rfl (fun W u => ∃ a b c, u = .agg #[a, b, c] ∧ NetIn W a b c n) (fun W W' u h hs => by obtain ⟨a, b, c, rfl, h⟩ := h; exact ⟨a, b, c, rfl, h.keep hs⟩) (by kernel_rfl) (by kernel_rfl) (by kernel_rfl) (by simp) (since_refl _) ?_
  simp only [List.take_succ_cons, List.take_zero, List.drop_succ_cons, List.drop_zero]
  refine pflow_val (v := ?_) rfl ?_ ?_; rotate_left; (intro W hW; go_simp; with_reducible rfl)
  simp only [Act.put, List.setIfInBounds_toArray, List.set_cons_succ, List.set_cons_zero]
  refine pflow_val (v := ?_) rfl ?_ ?_; rotate_left; (intro W hW; go_simp; with_reducible rfl)
  simp only [Act.put, List.setIfInBounds_toArray, List.set_cons_succ, List.set_cons_zero]
  refine ⟨⟨rfl, fun W hW => ?_⟩, fun u => ?_⟩
  · unfold GivesAny
    go_simp
    refine (toNetwork_any _ _ _ n W ((fun W hW => HA4.out W (Hz8.out.after hW)) W hW) hsz).mono ?_
    rintro e W' ⟨a, b, c, S, rfl, ho, hb⟩
    exact ⟨_, rfl, ⟨a, b, c, rfl, ho.read⟩, hb⟩
  simp only [Act.put, List.setIfInBounds_toArray, List.set_cons_succ, List.set_cons_zero]
  (try simp only [List.getElem_toArray, List.getElem_cons_succ, List.getElem_cons_zero])
  (try simp only [Act.put, List.setIfInBounds_toArray, List.set_cons_succ, List.set_cons_zero])
  refine flow_op (.bool true) rfl (fun W hW => ?_) ?_
  · have hS := hW.1
    have hR := Lib.hid hW.2
    clear hW
    unfold Gives
    go_simp
    obtain ⟨a, b, c, hu, hN⟩ := hR.out
    rw [hu]
    refine (eqNetwork_same _ _ _ _ _ _ n W ((fun W hW => (HX.out W (Hx8.out.after hW)).read) W hS) hN).mono ?_
    rintro e W' ⟨rfl, hb⟩
    exact ⟨rfl, hS.trans hb, a, b, c, rfl, hN.keep hb⟩
  simp only [Act.put, List.setIfInBounds_toArray, List.set_cons_succ, List.set_cons_zero]
  refine flow_val (v := .bool false) rfl (fun W hW => by go_simp) ?_
  simp only [Act.put, List.setIfInBounds_toArray, List.set_cons_succ, List.set_cons_zero]
  intro W9 hW9 _
  clear r0 r1 r2 q00 q01 q02
  obtain ⟨x0, x1, x2, g00, g01, g02⟩ := HG0.out
  have hz8 := Since.after Hz8.out hW9
  have hx8 := Since.after Hx8.out hW9
  have hg8 := Since.after Hg8.out hW9
  clear hW9 HG0 Hz8 Hx8 Hg8
  obtain ⟨kq, hkq⟩ : ∃ kq, kq = 1 + cntNet n := ⟨_, rfl⟩
  have Hk := Lib.hid hkq
  have hk1 : ((kq : Int) < 0) = False := by simp
  clear hkq
  have Hrl := Lib.hid (show rs.length ≤ 4611686018427387904 from by rw [← Hrs.out]; exact fnExactProveProperty_dl n a1 hsz )
  have hcn := cnt_sz hsz
  have Hcn := Lib.hid hcn
  clear hcn
  go_wp2_with fail
  refine (markNetwork_any _ _ _ n 1 _ _ Sx (HX.out _ hx8) (by have := Hcn.out; omega)).mono ?_
  rw [← Hk.out]
  rintro e W7 ⟨rfl, hom, hon⟩
  have hz9 : Since W3 W7 := Below.trans hz8 (Only.below hon _ (Since.below hz8).size (fun j hj => (HSx.out j hj).1))
  have hog : Own W7 w6.heap.size (.slice Bg rs.length dg) rs := ownsRow_stable (HG.out _ hg8) (fun j hj => hon.block j (World.ownsRow.lt (HG.out _ hg8) j (by simpa using hj)).2 (fun hs => by have := (HSx.out j hs).2; have := (HSg.out j (by simpa using hj)).1; have := Hw56.out; omega))
  clear hon hom hz8 hx8 hg8 x0 x1 x2 
  have Ho := Lib.hid hog
  clear hog
  go_wp2_with fail
  refine (eqIntS_same _ _ rs _ (Ho.out).ints (HW.out _ hz9)).mono ?_
  rintro e W8 ⟨rfl, hb9⟩
  have hz10 := Since.trans hz9 hb9
  have hog := Ho.out.keep hb9
  clear hb9 hz9 Ho
  have hz9 := hz10
  have Ho := Lib.hid hog
  clear hz10 hog
  obtain ⟨km, hkm⟩ : ∃ z, z = 1 + rs.length := ⟨_, rfl⟩
  have Hkm := Lib.hid hkm
  have hkmx : ((km : Int) < 0) = False := by simp
  clear hkm
  have hbd := Ho.out.bd
  have Hbd := Lib.hid hbd
  clear hbd
  go_wp2_with fail
  refine (markIntS_any _ rs 1 _ _ Ho.out (by have := Hrl.out; omega)).mono ?_
  rw [← Hkm.out]
  rintro e W9 ⟨rfl, hom, hgr⟩
  have hz10 : Since W3 W9 := Below.grown hz9 hgr (Since.below hz9).size (fun j hj => by have := (HSg.out j hj).1; have := Hbase.out; omega)
  have HM := Lib.hid (show ∀ X, Since W9 X → IntS X (.slice Bg rs.length dg) (marks 1 rs.length) from fun X hX => hom.ints.keep hX.below)
  have hm : Since W9 W9 := since_refl _
  clear hom hgr hz9 Ho
  have hz9 := hz10
  clear hz10
  go_wp2_with fail
  refine (heldIntS_any _ 1 rs.length _ (HM.out _ hm) (by have := Hrl.out; omega)).mono ?_
  rw [← Hkm.out]
  rintro e W10 ⟨rfl, rfl⟩
  go_wp2_with fail
  refine (toNetwork_any _ _ _ n _ (HA4.out _ hz9) hsz).mono ?_
  rintro e W11 ⟨vet, vit, vnt, St, rfl, hot, hbt⟩
  obtain ⟨Bta, dta, rfl, _⟩ := id hot.read.1
  obtain ⟨Btb, dtb, rfl, _⟩ := id hot.read.2.1
  obtain ⟨Btc, dtc, rfl, _⟩ := id hot.read.2.2
  have HNt := Lib.hid (show ∀ X, Since W11 X → NetIn X (.slice Bta n.ends.length dta) (.slice Btb n.ids.length dtb) (.slice Btc n.inputs.length dtc) n from fun X hX => hot.read.keep hX.below)
  have ht : Since W11 W11 := since_refl _
  have hz9' := Since.trans hz9 hbt
  have hm' := Since.trans hm hbt
  clear hz9 hm hbt
  have hz9 := hz9'
  clear hz9'
  have hm := hm'
  clear hm'
  clear hot
  go_wp2_with fail
  refine (fnExactProveProperty_impl _ _ _ n a1 _ (HNt.out _ ht) ba1 hsz ).mono ?_
  simp only [Hc1.out, Hrs.out]
  rintro e W12 ⟨uh, rfl, hoh, hbh⟩
  have HH := Lib.hid (hoh).ints
  obtain ⟨Bh, dh, rfl, _⟩ := id (hoh).ints
  have hz9' := Since.trans hz9 hbh
  have hm' := Since.trans hm hbh
  clear hz9 hm hbh
  have hz9 := hz9'
  clear hz9'
  have hm := hm'
  clear hm'
  clear hoh
  go_wp2_with fail
  refine (eqIntS_same _ _ rs _ HH.out (HW.out _ hz9)).mono ?_
  rintro e W13 ⟨rfl, hb9⟩
  have hz9' := Since.trans hz9 hb9
  have hm' := Since.trans hm hb9
  clear hz9 hm hb9
  have hz9 := hz9'
  clear hz9'
  have hm := hm'
  clear hm'
  go_wp2_with fail
  refine (heldIntS_any _ 1 rs.length _ (HM.out _ hm) (by have := Hrl.out; omega)).mono ?_
  rw [← Hkm.out]
  rintro e W14 ⟨rfl, rfl⟩
  go_wp2_with fail
  go_ret
  exact ⟨rfl, Since.after Hb0.out (Hs4.out.after hz9)⟩
end Go.Proofs.YtfkmkpamdlhbgaaGreat
