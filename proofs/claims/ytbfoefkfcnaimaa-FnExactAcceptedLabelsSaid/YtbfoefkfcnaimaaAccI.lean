import Derived.Test.YtbfoefkfcnaimaaAccS
namespace Go.Proofs.Ytbfoefkfcnaimaa
open Go.RowKit
set_option maxRecDepth 100000 in
set_option maxHeartbeats 8000000 in
theorem fnExactAcceptedLabels_impl (ve vi vn : Value) (n : Net) (s : Int) (vl : Value) (ls : List Int) (v most : Int) (w : World) (h : NetIn w ve vi vn n) (_ : -9223372036854775808 ≤ s ∧ s ≤ 9223372036854775807) (hl : IntS w vl ls) (_ : -9223372036854775808 ≤ v ∧ v ≤ 9223372036854775807) (_ : -9223372036854775808 ≤ most ∧ most ≤ 9223372036854775807) (hsz : szNet n ≤ 1048576) (hbig : ls.length ≤ 1048576) :
    Calls Try.prog 25 #[.agg #[ve, vi, vn], .int .i64 s, vl, .int .i64 v, .int .i64 most] w fun e w' => ∃ u, e = .returned (.tuple #[u, .bool (fnExactAcceptedLabels_r1 n s ls v most)]) ∧ Own w' w.heap.size u (fnExactAcceptedLabels_d n s ls v most) ∧ Below w.heap.size w w' := by
  obtain ⟨w0, hw0⟩ : ∃ w0, w0 = (w).alloc (.cells #[ve, vi, vn] 31) := ⟨_, rfl⟩
  have hb0 : Below w.heap.size w w0 := by rw [hw0]; exact ((Below.refl _ _).alloc (by simp) _)
  have H := Lib.hid (h.keep hb0)
  obtain ⟨h1, h2, h3⟩ := h.keep hb0
  obtain ⟨A, c, rfl, hlc, hm, hA⟩ := h1
  obtain ⟨A2, c2, rfl, _, hm2, _⟩ := h2
  obtain ⟨A3, c3, rfl, _, hm3, _⟩ := h3
  unfold maxLen at hm hm2 hm3
  have p00 : ∀ W, Since w0 W → W.cell? ⟨w.heap.size, 0, none⟩ = some (.slice A n.ends.length c) := have_cell (by rw [hw0]; simp)
  have p01 : ∀ W, Since w0 W → W.cell? ⟨w.heap.size, 1, none⟩ = some (.slice A2 n.ids.length c2) := have_cell (by rw [hw0]; simp)
  have p02 : ∀ W, Since w0 W → W.cell? ⟨w.heap.size, 2, none⟩ = some (.slice A3 n.inputs.length c3) := have_cell (by rw [hw0]; simp)
  have Hb0 := Lib.hid hb0
  have Hw0 := Lib.hid hw0
  have HA := Lib.hid hA
  clear hA h
  clear hb0 hw0
  have HL := Lib.hid (hl.keep Hb0.out)
  obtain ⟨AL, cL, rfl, hlL, hmL, _⟩ := hl
  unfold maxLen at hmL
  go_enter Try.func25, Try.ntmps25
  go_upto_region 1 with (fail)
  rw [← Hw0.out]
  refine wp_region_flow0 16 (Since w0) (since_refl _) ?_
  simp only [List.take_succ_cons, List.take_zero, List.drop_succ_cons, List.drop_zero]
  refine flow_val (v := ?_) rfl ?_ ?_; rotate_left; (intro W hW; go_simp; with_reducible rfl)
  simp only [Act.put, List.setIfInBounds_toArray, List.set_cons_succ, List.set_cons_zero]
  refine flow_val (v := ?_) rfl ?_ ?_; rotate_left; (intro W hW; go_simp; with_reducible rfl)
  simp only [Act.put, List.setIfInBounds_toArray, List.set_cons_succ, List.set_cons_zero]
  refine flow_val (v := ?_) rfl ?_ ?_; rotate_left; (intro W hW; go_simp; with_reducible rfl)
  simp only [Act.put, List.setIfInBounds_toArray, List.set_cons_succ, List.set_cons_zero]
  refine flow_op ?_ rfl ?_ ?_; rotate_left; (intro W hW; unfold Gives; go_simp; (with_reducible refine (labelsOk_any _ _ _ _ n s ls W (H.out.keep hW.below) (HL.out.keep hW.below) hsz).mono ?_); rintro e W' ⟨rfl, hb3⟩; first | (refine ⟨?_, Since.trans hW hb3⟩; with_reducible rfl) | (subst hb3; refine ⟨?_, hW⟩; with_reducible rfl))
  simp only [Act.put, List.setIfInBounds_toArray, List.set_cons_succ, List.set_cons_zero]
  refine flow_val (v := ?_) rfl ?_ ?_; rotate_left; (intro W hW; go_simp; with_reducible rfl)
  simp only [Act.put, List.setIfInBounds_toArray, List.set_cons_succ, List.set_cons_zero]
  refine flow_val (v := ?_) rfl ?_ ?_; rotate_left; (intro W hW; go_simp; with_reducible rfl)
  simp only [Act.put, List.setIfInBounds_toArray, List.set_cons_succ, List.set_cons_zero]
  refine flow_gval (v := ?_) rfl rfl ?_ ?_; rotate_left; (intro hb W hW; go_simp; with_reducible rfl)
  simp only [Act.put, List.setIfInBounds_toArray, List.set_cons_succ, List.set_cons_zero]
  refine flow_gval (v := ?_) rfl rfl ?_ ?_; rotate_left; (intro hb W hW; go_simp; with_reducible rfl)
  simp only [Act.put, List.setIfInBounds_toArray, List.set_cons_succ, List.set_cons_zero]
  refine flow_gop (v := ?_) rfl rfl ?_ ?_; rotate_left; (intro hb W hW; unfold Gives; go_simp; (with_reducible refine (hasNode_b _ _ _ n.ends v W (H.out.keep hW.below).es).mono ?_); rintro e W' ⟨rfl, hb3⟩; first | (refine ⟨?_, Since.trans hW hb3⟩; with_reducible rfl) | (subst hb3; refine ⟨?_, hW⟩; with_reducible rfl))
  simp only [Act.put, List.setIfInBounds_toArray, List.set_cons_succ, List.set_cons_zero]
  refine flow_gval (v := ?_) rfl rfl ?_ ?_; rotate_left; (intro hb W hW; go_simp; with_reducible rfl)
  simp only [Act.put, List.setIfInBounds_toArray, List.set_cons_succ, List.set_cons_zero]
  first | refine flow_or rfl rfl ?_ | (refine flow_val (v := ?_) rfl ?_ ?_; rotate_left; (intro W hW; go_simp; with_reducible rfl))
  simp only [Act.put, List.setIfInBounds_toArray, List.set_cons_succ, List.set_cons_zero]
  refine flow_val (v := ?_) rfl ?_ ?_; rotate_left; (intro W hW; go_simp; with_reducible rfl)
  simp only [Act.put, List.setIfInBounds_toArray, List.set_cons_succ, List.set_cons_zero]
  refine flow_gval (v := ?_) rfl rfl ?_ ?_; rotate_left; (intro hb W hW; go_simp; with_reducible rfl)
  simp only [Act.put, List.setIfInBounds_toArray, List.set_cons_succ, List.set_cons_zero]
  refine flow_gop (v := ?_) rfl rfl ?_ ?_; rotate_left; (intro hb W hW; unfold Gives; go_simp; (with_reducible refine (within_b _ _ _ W).mono ?_); rintro e W' ⟨rfl, hb3⟩; first | (refine ⟨?_, Since.trans hW hb3⟩; with_reducible rfl) | (subst hb3; refine ⟨?_, hW⟩; with_reducible rfl))
  simp only [Act.put, List.setIfInBounds_toArray, List.set_cons_succ, List.set_cons_zero]
  refine flow_gval (v := ?_) rfl rfl ?_ ?_; rotate_left; (intro hb W hW; go_simp; with_reducible rfl)
  simp only [Act.put, List.setIfInBounds_toArray, List.set_cons_succ, List.set_cons_zero]
  first | refine flow_or rfl rfl ?_ | (refine flow_val (v := ?_) rfl ?_ ?_; rotate_left; (intro W hW; go_simp; with_reducible rfl))
  simp only [Act.put, List.setIfInBounds_toArray, List.set_cons_succ, List.set_cons_zero]
  intro W hW
  cases hg : (!labOk n s ls || !nodeB n.ends v || !inB 0 1000 most)
  · simp only [Bool.or_eq_false_iff, Bool.not_eq_false', neNodeB, nodeB, Bool.and_eq_true] at hg
    have g1 := hg.1.1
    have g2 : inB 0 ((n.ends.length : Int) - 1) v = true := by first | exact hg.1.2 | exact hg.1.2.2
    have g3 := hg.2
    have hr : fnExactAcceptedLabels_r1 n s ls v most = true := by simp [fnExactAcceptedLabels_r1, g1, g2, g3]
    have hv := inB_iff.1 g2
    have hmo := inB_iff.1 g3
    obtain ⟨k, rfl⟩ := Int.eq_ofNat_of_zero_le hv.1
    obtain ⟨mo, rfl⟩ := Int.eq_ofNat_of_zero_le hmo.1
    obtain ⟨-, hln, hl40⟩ := labOk_net g1
    have Hr := Lib.hid hr
    have Hd := Lib.hid (show fnExactAcceptedLabels_d n s ls k mo = keptB (rejX n s ls k) (upto (mo + 1)) by simp [fnExactAcceptedLabels_d, hr])
    have Hok := Lib.hid g1
    have hkn : k < ls.length := by omega
    have hmo1 : mo ≤ 1000 := by omega
    have hlb : ls.length ≤ 40 := by omega
    have Hln := Lib.hid hln
    have HW := Lib.hid hW
    clear hg g1 g2 g3 hr hv hmo hln hW
    go_wp2_with fail
    refine (clone_any _ ls W (HL.out.keep HW.out.below) (by omega)).mono ?_
    rintro e W1 ⟨u1, rfl, ho1, hb1⟩
    rcases ho1.cases with ⟨-, e1⟩ | ⟨g, c1, rfl, hg1, hg2⟩
    · simp [e1] at hkn
    have hsW1 : Since w0 W1 := HW.out.trans hb1
    have hgw : w0.heap.size ≤ g := Nat.le_trans (Since.below HW.out).size hg1
    have HO1 := Lib.hid (ho1.mono (Since.below HW.out).size)
    have HsW1 := Lib.hid hsW1
    clear ho1 hb1 hg1 hg2 hsW1
    go_wp2
    go_loopw [13, 35] (fun u i wr => ∃ (j : Nat) (ys : List Int), j ≤ mo + 1 ∧ i = .int .i64 j ∧ Own wr w0.heap.size u (keptB (rejX n s ls k) (upto j)) ∧ Own wr w0.heap.size (.slice (some ⟨g, 0, none⟩) ls.length c1) ys ∧ (∀ x, ys.set k x = ls.set k x) ∧ u.ownBlock ≠ some g ∧ Since w0 wr) (fun _ i _ => mo + 1 - (intOf i).toNat)
    case atStart => exact ⟨0, ls, Nat.zero_le _, rfl, by simpa [keptB, upto] using own_nil _ w0.heap.size, HO1.out, fun _ => rfl, by simp [Value.ownBlock], HsW1.out⟩
    case round =>
      obtain ⟨j, ys, hj, rfl, ho, hoy, hys, hne, hs⟩ := hrel
      have Ho := Lib.hid ho
      have Hoy := Lib.hid hoy
      have Hys := Lib.hid hys
      have Hne := Lib.hid hne
      have hyl : ys.length = ls.length := hoy.len
      by_cases hlt : j ≤ mo
      · obtain ⟨y, hy⟩ := getx ys k (by omega)
        have cz := hoy.cell hy
        have fz := hoy.free k
        have hz1 := hoy.set (k := k) (j : Int)
        rw [hys] at hz1
        have Hz1 := Lib.hid hz1
        have Hz2 := Lib.hid (own_set_at (k := k) ho hne (.int .i64 (j : Int)))
        have Hs2 := Lib.hid (show Since w0 (wr.setCell ⟨g, k, none⟩ (.int .i64 (j : Int))) from Below.setCell hs hgw _)
        obtain ⟨wz, hwz⟩ : ∃ wz, wz = wr.setCell ⟨g, k, none⟩ (.int .i64 (j : Int)) := ⟨_, rfl⟩
        rw [← hwz] at Hz1 Hz2 Hs2
        have hszz : Since w0 wz := Hs2.out
        obtain ⟨es, l, idk, ink, a1, a2, a3, a4, a5, a6, a7, a8, a9, a10⟩ := acc_at (labOk_set Hok.out k (j : Int) (by omega) (by omega)) (k := k) (by have := Hln.out; omega)
        have HA := Lib.hid (And.intro a3 (And.intro a5 (And.intro a6 (And.intro a7 (And.intro a8 (And.intro a9 a10))))))
        have Hlen : Hid ((keptB (rejX n s ls k) (upto j)).length + 1 ≤ 17592186044416) := by
          have := kept_le (rejX n s ls k) (upto j)
          rw [upto_len] at this
          show _ ≤ _
          omega
        have Hwz := Lib.hid hwz
        clear ho hoy hys hne hy hz1 a3 a5 a6 a7 a8 a9 a10 hwz
        go_upto_region 9 with (fail)
        rw [← Hwz.out]
        clear cz fz hs
        go_wp2_with fail
        refine (accepts_any _ _ _ _ n s (ls.set k (j : Int)) k es l idk ink _ (H.out.keep hszz.below) (by exact Hz1.out.ints) a1 a2 HA.out.1 a4 HA.out.2.1 HA.out.2.2.1 HA.out.2.2.2.1 HA.out.2.2.2.2.1 HA.out.2.2.2.2.2.1).mono ?_
        rw [← HA.out.2.2.2.2.2.2]
        rintro e W2 ⟨rfl, hb2⟩
        have hs2 := Since.trans hszz hb2
        have Ho2 := Lib.hid (Hz2.out.keep hb2)
        have Hoy2 := Lib.hid (Hz1.out.keep hb2)
        have hg2 : g < W2.heap.size := (Hoy2.out.blk).2
        cases hp : accAt n s (ls.set k (j : Int)) k
        · have Hp := Lib.hid (show rejX n s ls k (j : Int) = true by simp [rejX, hp])
          clear hszz hb2 hp
          go_wp2
          go_roundw
          case rel => exact ⟨j + 1, ls.set k j, by omega, by go_num, by rw [kept_snoc', Hp.out]; simpa using Ho2.out, by have := Hoy2.out; exact this, fun x => by rw [List.set_set], Hne.out, hs2⟩
          case measure => simp [intOf]; omega
        · have Hp := Lib.hid (show rejX n s ls k (j : Int) = false by simp [rejX, hp])
          clear hszz hb2 hp
          go_wp2_with (at_builtin; refine app_int rfl _ _ rfl rfl (Ho2.out.since (since_alloc _ (since_refl _))) W2.heap.size j rfl (by simp [go_sem]) Hlen.out (by have := hs2.below.size; simp; omega) ?_; intro g3 cc w3 ho3 hg3 hor3 _)
          change World.grownBy _ w3 (Value.ownBlock u13) at hg3
          change (Value.ownBlock u13 = some g3 ∨ g3 = _) at hor3
          have Ho3 := Lib.hid ho3
          have Hoy3 : Hid (Own w3 w0.heap.size (.slice (some ⟨g, 0, none⟩) ls.length c1) (ls.set k (j : Int))) := Own.grown (Hoy2.out.keep (below_alloc W2 _)) hg3 (fun q hq e => by simp [Value.ownBlock] at hq; subst hq; exact Hne.out e)
          have Hne3 : Hid (g3 ≠ g) := by
            rcases hor3 with e | e
            · exact fun e2 => Hne.out (by rw [e, e2])
            · simp at e; exact fun e2 => by omega
          have Hs3 : Hid (Since w0 w3) := Below.grown (show Below w0.heap.size w0 _ from since_alloc _ hs2) hg3 (by have := hs2.below.size; simp; omega) (fun q hq => (World.ownsRow.lt Ho2.out q hq).1)
          clear ho3 hg3 hor3 hs2
          go_wp2
          go_roundw
          case rel => exact ⟨j + 1, ls.set k j, by omega, by go_num, by rw [kept_snoc', Hp.out]; exact Ho3.out, Hoy3.out, fun x => by rw [List.set_set], by simpa [Value.ownBlock] using Hne3.out, Hs3.out⟩
          case measure => simp [intOf]; omega
      · obtain rfl : j = mo + 1 := by omega
        clear ho hoy hys hne hyl
        go_wp2
        go_ret2
        exact ⟨_, congrArg (fun b => Ending.returned (.tuple #[_, .bool b])) Hr.out.symm, by rw [Hd.out]; exact Ho.out.mono Hb0.out.size, Since.after Hb0.out hs⟩
  · have Hr := Lib.hid (show fnExactAcceptedLabels_r1 n s ls v most = false by
      simp only [Bool.or_eq_true, Bool.not_eq_true', neNodeB, nodeB, Bool.and_eq_false_iff] at hg
      unfold fnExactAcceptedLabels_r1 labOk
      rcases hg with (hg | hg) | hg
      · unfold labOk at hg; simp [hg]
      · simp [hg]
      · simp [hg])
    have HW := Lib.hid hW
    clear hg hW
    go_wp2
    go_ret2
    exact ⟨_, congrArg (fun b => Ending.returned (.tuple #[_, .bool b])) Hr.out.symm, by rw [show fnExactAcceptedLabels_d n s ls v most = [] by simp [fnExactAcceptedLabels_d, Hr.out]]; exact own_nil _ _, Since.after Hb0.out HW.out⟩
end Go.Proofs.Ytbfoefkfcnaimaa
