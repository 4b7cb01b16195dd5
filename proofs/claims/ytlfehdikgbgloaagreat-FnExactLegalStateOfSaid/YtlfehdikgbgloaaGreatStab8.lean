import Derived.Test.YtlfehdikgbgloaaGreatStab5
import Derived.Test.YtlfehdikgbgloaaGreatLawKit
import Derived.Test.YtlfehdikgbgloaaGreatVer9
namespace Go.Proofs.YtlfehdikgbgloaaGreat
open Go.RowKit
theorem countB_lo {n : Net} (hn : netOk n = true) {r : Int} {v : Nat} : 1 ≤ countB n r v := by
  have hm := (most_degs hn).1
  have hl := (netOk_len hn).1
  unfold countB
  split
  · omega
  · split
    · omega
    · split <;> omega
theorem sit_no {n : Net} {r : Int} {ls : List Int} (h : (!ruleOkB n r || ((ls.length : Int) != (n.ends.length : Int))) = true) : sitB n r ls = false := by
  unfold sitB
  rw [Bool.or_eq_true] at h
  rcases h with h | h
  · simp only [Bool.not_eq_true'] at h; rw [h]; rfl
  · have : ((ls.length : Int) == (n.ends.length : Int)) = false := by simpa [bne] using h
    rw [this]; simp
theorem sit_pre {n : Net} {r : Int} {ls : List Int} (h : (!ruleOkB n r || ((ls.length : Int) != (n.ends.length : Int))) = false) : netOk n = true ∧ ls.length = n.ends.length ∧ sitB n r ls = stAll n r ls := by
  rw [Bool.or_eq_false_iff] at h
  obtain ⟨h1, h2⟩ := h
  simp only [Bool.not_eq_false'] at h1
  have h3 : ((ls.length : Int) == (n.ends.length : Int)) = true := by simpa [bne] using h2
  refine ⟨?_, by simp at h3; omega, by unfold sitB; rw [h1, h3]; rfl⟩
  unfold ruleOkB at h1
  simp only [Bool.and_eq_true] at h1
  exact h1.1.1
set_option maxHeartbeats 1600000 in
theorem ssStates_any (ve vi vn vl : Value) (n : Net) (r : Int) (ls : List Int) (w : World) (h : NetIn w ve vi vn n) (hl : IntS w vl ls) (hsz : szNet n ≤ 1048576) :
    Calls Tryz.prog 49 #[.agg #[ve, vi, vn], .int .i64 r, vl] w fun e w' => e = .returned (.bool (sitB n r ls)) ∧ Below w.heap.size w w' := by
  have HL0 := Lib.hid hl
  obtain ⟨AL, cL, rfl, hlL, hmL, hAL⟩ := hl
  unfold maxLen at hmL
  obtain ⟨w0, hw0⟩ : ∃ w0, w0 = (w).alloc (.cells #[ve, vi, vn] 31) := ⟨_, rfl⟩
  have hb0 : Below w.heap.size w w0 := by rw [hw0]; exact ((Below.refl _ _).alloc (by simp) _)
  have H := Lib.hid (h.keep hb0)
  obtain ⟨h1, h2, h3⟩ := h.keep hb0
  obtain ⟨A, c, rfl, hlc, hm, hA⟩ := h1
  obtain ⟨A2, c2, rfl, _, hm2, _⟩ := h2
  obtain ⟨A3, c3, rfl, _, hm3, _⟩ := h3
  unfold maxLen at hm hm2 hm3
  have p00 : ∀ W, Since w0 W → W.cell? ⟨w.heap.size, 0, none⟩ = some (.slice A n.ends.length c) := have_cell (by rw [hw0]; simp)
  have p01 : ∀ W, Since w0 W → W.cell? ⟨w.heap.size, 1, none⟩ = some (.slice A2 n.ids.length c2) := have_cell (by rw [hw0]; simp)
  have p02 : ∀ W, Since w0 W → W.cell? ⟨w.heap.size, 2, none⟩ = some (.slice A3 n.inputs.length c3) := have_cell (by rw [hw0]; simp)
  have Hb0 := Lib.hid hb0
  have Hw0 := Lib.hid hw0
  have HA := Lib.hid hA
  clear hA h
  clear hb0 hw0
  have HL := Lib.hid (show ∀ k x, ls[k]? = some x → ∃ b off, AL = some ⟨b, off, none⟩ ∧ w0.cell? ⟨b, off + k, none⟩ = some (.int .i64 x) from fun k x hx => by obtain ⟨b, off, e, hc⟩ := hAL k x hx; exact ⟨b, off, e, bc Hb0.out hc⟩)
  clear hAL
  go_enter Tryz.func49, Tryz.ntmps49
  go_upto_region 1 with (fail)
  rw [← Hw0.out]
  refine wp_region_flow0 12 (Since w0) (since_refl _) ?_
  simp only [List.take_succ_cons, List.take_zero, List.drop_succ_cons, List.drop_zero]
  refine flow_val (v := ?_) rfl ?_ ?_; rotate_left; (intro W hW; go_simp; with_reducible rfl)
  simp only [Act.put, List.setIfInBounds_toArray, List.set_cons_succ, List.set_cons_zero]
  refine flow_val (v := ?_) rfl ?_ ?_; rotate_left; (intro W hW; go_simp; with_reducible rfl)
  simp only [Act.put, List.setIfInBounds_toArray, List.set_cons_succ, List.set_cons_zero]
  refine flow_op ?_ rfl ?_ ?_; rotate_left; (intro W hW; unfold Gives; go_simp; (with_reducible refine (ssAsked_any _ _ _ n r W (H.out.keep hW.below) hsz).mono ?_); rintro e W' ⟨rfl, hb3⟩; first | (refine ⟨?_, Since.trans hW hb3⟩; with_reducible rfl) | (subst hb3; refine ⟨?_, hW⟩; with_reducible rfl))
  simp only [Act.put, List.setIfInBounds_toArray, List.set_cons_succ, List.set_cons_zero]
  refine flow_val (v := ?_) rfl ?_ ?_; rotate_left; (intro W hW; go_simp; with_reducible rfl)
  simp only [Act.put, List.setIfInBounds_toArray, List.set_cons_succ, List.set_cons_zero]
  refine flow_val (v := ?_) rfl ?_ ?_; rotate_left; (intro W hW; go_simp; with_reducible rfl)
  simp only [Act.put, List.setIfInBounds_toArray, List.set_cons_succ, List.set_cons_zero]
  refine flow_gval (v := ?_) rfl rfl ?_ ?_; rotate_left; (intro hb W hW; go_simp; with_reducible rfl)
  simp only [Act.put, List.setIfInBounds_toArray, List.set_cons_succ, List.set_cons_zero]
  refine flow_gval (v := ?_) rfl rfl ?_ ?_; rotate_left; (intro hb W hW; go_simp; with_reducible rfl)
  simp only [Act.put, List.setIfInBounds_toArray, List.set_cons_succ, List.set_cons_zero]
  refine flow_gval (v := ?_) rfl rfl ?_ ?_; rotate_left; (intro hb W hW; go_simp; with_reducible rfl)
  simp only [Act.put, List.setIfInBounds_toArray, List.set_cons_succ, List.set_cons_zero]
  refine flow_gval (v := ?_) rfl rfl ?_ ?_; rotate_left; (intro hb W hW; go_simp; with_reducible rfl)
  simp only [Act.put, List.setIfInBounds_toArray, List.set_cons_succ, List.set_cons_zero]
  refine flow_gval (v := ?_) rfl rfl ?_ ?_; rotate_left; (intro hb W hW; go_simp; with_reducible rfl)
  simp only [Act.put, List.setIfInBounds_toArray, List.set_cons_succ, List.set_cons_zero]
  refine flow_gval (v := ?_) rfl rfl ?_ ?_; rotate_left; (intro hb W hW; go_simp; with_reducible rfl)
  simp only [Act.put, List.setIfInBounds_toArray, List.set_cons_succ, List.set_cons_zero]
  first | refine flow_or rfl rfl ?_ | (refine flow_val (v := ?_) rfl ?_ ?_; rotate_left; (intro W hW; go_simp; with_reducible rfl))
  simp only [Act.put, List.setIfInBounds_toArray, List.set_cons_succ, List.set_cons_zero]
  intro W hW
  cases hg : (!ruleOkB n r || ((ls.length : Int) != (n.ends.length : Int)))
  · obtain ⟨hn, hll, hsa⟩ := sit_pre hg
    have Hn := Lib.hid hn
    have hn40 := netOk_len hn
    have Hll := Lib.hid hll
    have Hsa := Lib.hid hsa
    have hb40 : ls.length ≤ 40 := by omega
    have hs1 := hW
    have q00 := lift_cell p00 hW
    have q01 := lift_cell p01 hW
    have q02 := lift_cell p02 hW
    have HsW := Lib.hid hW
    clear hg hn hll hsa hW p00 p01 p02 hs1
    go_wp2
    go_loopw [23] (fun i wr => ∃ k : Nat, k ≤ ls.length ∧ i = .int .i64 k ∧ (List.range k).all (stAt n r ls) = true ∧ Since W wr) (fun i _ => ls.length - (intOf i).toNat)
    case atStart => exact ⟨0, Nat.zero_le _, rfl, rfl, since_refl _⟩
    case round =>
      obtain ⟨k, hk, rfl, hall, hsr⟩ := hrel
      have Hall := Lib.hid hall
      clear hall
      by_cases hlt : k < ls.length
      · obtain ⟨x, hx⟩ := getx ls k hlt
        obtain ⟨b, off, rfl, hcell⟩ := HL.out k x hx
        have d0 := (HsW.out.after hsr).cell hcell
        obtain ⟨y, hy⟩ : ∃ y, y = countB n r k := ⟨_, rfl⟩
        have hcall := ssCount_any _ _ _ n r k wr (H.out.keep (HsW.out.after hsr).below) Hn.out (by rw [← Hll.out]; exact hlt)
        rw [← hy] at hcall
        have Hcall := Lib.hid hcall
        have hy0 : 1 ≤ y := by rw [hy]; exact countB_lo Hn.out
        have hy1 : y ≤ 41 := by rw [hy]; exact countB_le Hn.out (by rw [← Hll.out]; exact hlt)
        have m1 : IntKind.i64.wrap (y - 1) = y - 1 := wr64 _ (by omega) (by omega)
        have m3 : IntKind.i64.wrap ((k : Int) + 1) = (k : Int) + 1 := wr64 _ (by omega) (by omega)
        have HS : Hid (stAt n r ls k = inB 0 (y - 1) x) := by show _ = _; unfold stAt; rw [← hy, getD_of hx]
        clear hx hcell hcall hy
        go_wp2_with fail
        refine Hcall.out.mono ?_
        rintro e w1 ⟨rfl, hb1⟩
        have hs1 : Since W w1 := hsr.trans hb1
        clear hb1 hsr
        obtain ⟨z, hz⟩ : ∃ z, z = inB 0 (y - 1) x := ⟨_, rfl⟩
        have Hz := Lib.hid hz
        clear hz
        go_wp2_with fail
        refine (l1In_b _ _ _ w1).mono ?_
        rw [← Hz.out]
        rintro e w2 ⟨rfl, rfl⟩
        cases z
        · have Hr : Hid (sitB n r ls = false) := by show _ = _; rw [Hsa.out]; unfold stAll; exact range_all_stop (by rw [← Hll.out]; exact hlt) (by rw [HS.out, ← Hz.out])
          go_wp2
          go_ret
          exact ⟨congrArg (fun b => Ending.returned (.bool b)) Hr.out.symm, Since.after Hb0.out (HsW.out.after hs1)⟩
        · have Hn2 : Hid ((List.range (k + 1)).all (stAt n r ls) = true) := by show _ = _; rw [range_all_succ, Hall.out, HS.out, ← Hz.out]; rfl
          go_wp2
          go_roundw
          case rel => exact ⟨k + 1, by omega, by go_num, Hn2.out, hs1⟩
          case measure => simp [intOf]; omega
      · have Hr : Hid (sitB n r ls = true) := by show _ = _; rw [Hsa.out]; unfold stAll; rw [← Hll.out]; have := Hall.out; rwa [show k = ls.length by omega] at this
        obtain rfl : k = ls.length := by omega
        go_wp2
        go_ret
        exact ⟨congrArg (fun b => Ending.returned (.bool b)) Hr.out.symm, Since.after Hb0.out (HsW.out.after hsr)⟩
  · have Hr : Hid (sitB n r ls = false) := sit_no hg
    have HW := Lib.hid hW
    clear hg hW
    go_wp2
    go_ret
    exact ⟨congrArg (fun b => Ending.returned (.bool b)) Hr.out.symm, Since.after Hb0.out HW.out⟩
set_option maxHeartbeats 1600000 in
theorem situationOk_any (ve vi vn vl : Value) (n : Net) (r : Int) (ls : List Int) (w : World) (h : NetIn w ve vi vn n) (hl : IntS w vl ls) (hsz : szNet n ≤ 1048576) :
    Calls Tryz.prog 53 #[.agg #[ve, vi, vn], .int .i64 r, vl] w fun e w' => e = .returned (.bool (sitB n r ls)) ∧ Below w.heap.size w w' := by
  have HL0 := Lib.hid hl
  obtain ⟨AL, cL, rfl, hlL, hmL, hAL⟩ := hl
  unfold maxLen at hmL
  obtain ⟨w0, hw0⟩ : ∃ w0, w0 = (w).alloc (.cells #[ve, vi, vn] 31) := ⟨_, rfl⟩
  have hb0 : Below w.heap.size w w0 := by rw [hw0]; exact ((Below.refl _ _).alloc (by simp) _)
  have H := Lib.hid (h.keep hb0)
  obtain ⟨h1, h2, h3⟩ := h.keep hb0
  obtain ⟨A, c, rfl, hlc, hm, hA⟩ := h1
  obtain ⟨A2, c2, rfl, _, hm2, _⟩ := h2
  obtain ⟨A3, c3, rfl, _, hm3, _⟩ := h3
  unfold maxLen at hm hm2 hm3
  have p00 : ∀ W, Since w0 W → W.cell? ⟨w.heap.size, 0, none⟩ = some (.slice A n.ends.length c) := have_cell (by rw [hw0]; simp)
  have p01 : ∀ W, Since w0 W → W.cell? ⟨w.heap.size, 1, none⟩ = some (.slice A2 n.ids.length c2) := have_cell (by rw [hw0]; simp)
  have p02 : ∀ W, Since w0 W → W.cell? ⟨w.heap.size, 2, none⟩ = some (.slice A3 n.inputs.length c3) := have_cell (by rw [hw0]; simp)
  have Hb0 := Lib.hid hb0
  have Hw0 := Lib.hid hw0
  have HA := Lib.hid hA
  clear hA h
  clear hb0 hw0
  have HL := Lib.hid (show ∀ k x, ls[k]? = some x → ∃ b off, AL = some ⟨b, off, none⟩ ∧ w0.cell? ⟨b, off + k, none⟩ = some (.int .i64 x) from fun k x hx => by obtain ⟨b, off, e, hc⟩ := hAL k x hx; exact ⟨b, off, e, bc Hb0.out hc⟩)
  clear hAL
  go_enter Tryz.func53, Tryz.ntmps53
  go_upto_region 1 with (fail)
  rw [← Hw0.out]
  refine wp_region_flow0 12 (Since w0) (since_refl _) ?_
  simp only [List.take_succ_cons, List.take_zero, List.drop_succ_cons, List.drop_zero]
  refine flow_val (v := ?_) rfl ?_ ?_; rotate_left; (intro W hW; go_simp; with_reducible rfl)
  simp only [Act.put, List.setIfInBounds_toArray, List.set_cons_succ, List.set_cons_zero]
  refine flow_val (v := ?_) rfl ?_ ?_; rotate_left; (intro W hW; go_simp; with_reducible rfl)
  simp only [Act.put, List.setIfInBounds_toArray, List.set_cons_succ, List.set_cons_zero]
  refine flow_op ?_ rfl ?_ ?_; rotate_left; (intro W hW; unfold Gives; go_simp; (with_reducible refine (ruleOk_any _ _ _ n r W (H.out.keep hW.below) hsz).mono ?_); rintro e W' ⟨rfl, hb3⟩; first | (refine ⟨?_, Since.trans hW hb3⟩; with_reducible rfl) | (subst hb3; refine ⟨?_, hW⟩; with_reducible rfl))
  simp only [Act.put, List.setIfInBounds_toArray, List.set_cons_succ, List.set_cons_zero]
  refine flow_val (v := ?_) rfl ?_ ?_; rotate_left; (intro W hW; go_simp; with_reducible rfl)
  simp only [Act.put, List.setIfInBounds_toArray, List.set_cons_succ, List.set_cons_zero]
  refine flow_val (v := ?_) rfl ?_ ?_; rotate_left; (intro W hW; go_simp; with_reducible rfl)
  simp only [Act.put, List.setIfInBounds_toArray, List.set_cons_succ, List.set_cons_zero]
  refine flow_gval (v := ?_) rfl rfl ?_ ?_; rotate_left; (intro hb W hW; go_simp; with_reducible rfl)
  simp only [Act.put, List.setIfInBounds_toArray, List.set_cons_succ, List.set_cons_zero]
  refine flow_gval (v := ?_) rfl rfl ?_ ?_; rotate_left; (intro hb W hW; go_simp; with_reducible rfl)
  simp only [Act.put, List.setIfInBounds_toArray, List.set_cons_succ, List.set_cons_zero]
  refine flow_gval (v := ?_) rfl rfl ?_ ?_; rotate_left; (intro hb W hW; go_simp; with_reducible rfl)
  simp only [Act.put, List.setIfInBounds_toArray, List.set_cons_succ, List.set_cons_zero]
  refine flow_gval (v := ?_) rfl rfl ?_ ?_; rotate_left; (intro hb W hW; go_simp; with_reducible rfl)
  simp only [Act.put, List.setIfInBounds_toArray, List.set_cons_succ, List.set_cons_zero]
  refine flow_gval (v := ?_) rfl rfl ?_ ?_; rotate_left; (intro hb W hW; go_simp; with_reducible rfl)
  simp only [Act.put, List.setIfInBounds_toArray, List.set_cons_succ, List.set_cons_zero]
  refine flow_gval (v := ?_) rfl rfl ?_ ?_; rotate_left; (intro hb W hW; go_simp; with_reducible rfl)
  simp only [Act.put, List.setIfInBounds_toArray, List.set_cons_succ, List.set_cons_zero]
  first | refine flow_or rfl rfl ?_ | (refine flow_val (v := ?_) rfl ?_ ?_; rotate_left; (intro W hW; go_simp; with_reducible rfl))
  simp only [Act.put, List.setIfInBounds_toArray, List.set_cons_succ, List.set_cons_zero]
  intro W hW
  cases hg : (!ruleOkB n r || ((ls.length : Int) != (n.ends.length : Int)))
  · obtain ⟨hn, hll, hsa⟩ := sit_pre hg
    have Hn := Lib.hid hn
    have hn40 := netOk_len hn
    have Hll := Lib.hid hll
    have Hsa := Lib.hid hsa
    have hb40 : ls.length ≤ 40 := by omega
    have q00 := lift_cell p00 hW
    have q01 := lift_cell p01 hW
    have q02 := lift_cell p02 hW
    have hWW : Since W W := since_refl _
    obtain ⟨cs, hcs⟩ : ∃ cs, cs = countsB n r := ⟨_, rfl⟩
    have hcall := stateCounts_any _ _ _ n r W (H.out.keep hW.below) hn
    rw [← hcs] at hcall
    have Hcall := Lib.hid hcall
    have hcl : cs.length = ls.length := by rw [hcs, countsB_len, hll]
    have Hcl := Lib.hid hcl
    have HC : Hid (∀ k x, cs[k]? = some x → x = countB n r k ∧ k < n.ends.length) := fun k x hx => by
      have hk : k < n.ends.length := by have := lt_of_get hx; rw [hcs, countsB_len] at this; exact this
      rw [hcs, countsB_at hk] at hx
      exact ⟨(Option.some.inj hx).symm, hk⟩
    have HsW := Lib.hid hW
    clear hg hn hll hsa hW p00 p01 p02 hcs hcall hcl
    go_wp2_with fail
    refine Hcall.out.mono ?_
    rintro e w1 ⟨u, rfl, ho, hb⟩
    have hs1 : Since W w1 := hb
    have hI := ho.ints
    obtain ⟨Bu, du, rfl, hdl2, hdm, hdc⟩ := hI
    unfold maxLen at hdm
    have Hdc := Lib.hid hdc
    have Hs1 := Lib.hid (HsW.out.after hs1)
    clear hb ho hdc hs1 hWW
    go_wp2
    go_loopw [25] (fun i wr => ∃ k : Nat, k ≤ cs.length ∧ i = .int .i64 k ∧ (List.range k).all (stAt n r ls) = true ∧ Since w1 wr) (fun i _ => cs.length - (intOf i).toNat)
    case atStart => exact ⟨0, Nat.zero_le _, rfl, rfl, since_refl _⟩
    case round =>
      obtain ⟨k, hk, rfl, hall, hsr⟩ := hrel
      have Hall := Lib.hid hall
      clear hall
      by_cases hlt : k < cs.length
      · have hlt2 : k < ls.length := by rw [← Hcl.out]; exact hlt
        obtain ⟨x, hx⟩ := getx ls k hlt2
        obtain ⟨b, off, rfl, hcell⟩ := HL.out k x hx
        have d0 := (Hs1.out.after hsr).cell hcell
        obtain ⟨y, hy⟩ := getx cs k hlt
        obtain ⟨b5, off5, rfl, hcell5⟩ := Hdc.out k y hy
        have d5 := hsr.cell hcell5
        obtain ⟨hyc, hkn⟩ := HC.out k y hy
        have hy0 : 1 ≤ y := by rw [hyc]; exact countB_lo Hn.out
        have hy1 : y ≤ 41 := by rw [hyc]; exact countB_le Hn.out hkn
        have m1 : IntKind.i64.wrap (y - 1) = y - 1 := wr64 _ (by omega) (by omega)
        have m3 : IntKind.i64.wrap ((k : Int) + 1) = (k : Int) + 1 := wr64 _ (by omega) (by omega)
        have HS : Hid (stAt n r ls k = inB 0 (y - 1) x) := by show _ = _; unfold stAt; rw [← hyc, getD_of hx]
        clear hx hcell hcell5 hy hyc
        obtain ⟨z, hz⟩ : ∃ z, z = inB 0 (y - 1) x := ⟨_, rfl⟩
        have Hz := Lib.hid hz
        clear hz
        go_wp2_with fail
        refine (within_b _ _ _ wr).mono ?_
        rw [← Hz.out]
        rintro e w2 ⟨rfl, rfl⟩
        cases z
        · have Hr : Hid (sitB n r ls = false) := by show _ = _; rw [Hsa.out]; unfold stAll; exact range_all_stop hkn (by rw [HS.out, ← Hz.out])
          go_wp2
          go_ret
          exact ⟨congrArg (fun b => Ending.returned (.bool b)) Hr.out.symm, Since.after Hb0.out (Hs1.out.after hsr)⟩
        · have Hn2 : Hid ((List.range (k + 1)).all (stAt n r ls) = true) := by show _ = _; rw [range_all_succ, Hall.out, HS.out, ← Hz.out]; rfl
          go_wp2
          go_roundw
          case rel => exact ⟨k + 1, by omega, by go_num, Hn2.out, hsr⟩
          case measure => simp [intOf]; omega
      · have Hr : Hid (sitB n r ls = true) := by show _ = _; rw [Hsa.out]; unfold stAll; rw [← Hll.out, ← Hcl.out]; have := Hall.out; rwa [show k = cs.length by omega] at this
        obtain rfl : k = cs.length := by omega
        go_wp2
        go_ret
        exact ⟨congrArg (fun b => Ending.returned (.bool b)) Hr.out.symm, Since.after Hb0.out (Hs1.out.after hsr)⟩
  · have Hr : Hid (sitB n r ls = false) := sit_no hg
    have HW := Lib.hid hW
    clear hg hW
    go_wp2
    go_ret
    exact ⟨congrArg (fun b => Ending.returned (.bool b)) Hr.out.symm, Since.after Hb0.out HW.out⟩
end Go.Proofs.YtlfehdikgbgloaaGreat
namespace Go.Proofs.YtlfehdikgbgloaaGreat
open Go.RowKit
set_option maxHeartbeats 1600000 in
theorem ssEnabled_any (ve vi vn vl : Value) (n : Net) (r : Int) (ls : List Int) (w : World) (h : NetIn w ve vi vn n) (hl : IntS w vl ls) (hs : SitP n r ls) :
    Calls Tryz.prog 57 #[.agg #[ve, vi, vn], .int .i64 r, vl] w fun e w' => ∃ u, e = .returned u ∧ Own w' w.heap.size u (enB n r ls) ∧ Below w.heap.size w w' := by
  have HL0 := Lib.hid hl
  obtain ⟨AL, cL, rfl, hlL, hmL, hAL⟩ := hl
  unfold maxLen at hmL
  have hb40 : ls.length ≤ 40 := by have := netOk_len hs.net; have := hs.len; omega
  obtain ⟨w0, hw0⟩ : ∃ w0, w0 = (w).alloc (.cells #[ve, vi, vn] 31) := ⟨_, rfl⟩
  have hb0 : Below w.heap.size w w0 := by rw [hw0]; exact ((Below.refl _ _).alloc (by simp) _)
  have H := Lib.hid (h.keep hb0)
  obtain ⟨h1, h2, h3⟩ := h.keep hb0
  obtain ⟨A, c, rfl, hlc, hm, hA⟩ := h1
  obtain ⟨A2, c2, rfl, _, hm2, _⟩ := h2
  obtain ⟨A3, c3, rfl, _, hm3, _⟩ := h3
  unfold maxLen at hm hm2 hm3
  have p00 : ∀ W, Since w0 W → W.cell? ⟨w.heap.size, 0, none⟩ = some (.slice A n.ends.length c) := have_cell (by rw [hw0]; simp)
  have p01 : ∀ W, Since w0 W → W.cell? ⟨w.heap.size, 1, none⟩ = some (.slice A2 n.ids.length c2) := have_cell (by rw [hw0]; simp)
  have p02 : ∀ W, Since w0 W → W.cell? ⟨w.heap.size, 2, none⟩ = some (.slice A3 n.inputs.length c3) := have_cell (by rw [hw0]; simp)
  have Hb0 := Lib.hid hb0
  have Hw0 := Lib.hid hw0
  have HA := Lib.hid hA
  clear hA h
  clear hb0 hw0
  have HL := Lib.hid (show ∀ k x, ls[k]? = some x → ∃ b off, AL = some ⟨b, off, none⟩ ∧ w0.cell? ⟨b, off + k, none⟩ = some (.int .i64 x) from fun k x hx => by obtain ⟨b, off, e, hc⟩ := hAL k x hx; exact ⟨b, off, e, bc Hb0.out hc⟩)
  have Hs := Lib.hid hs
  have hs0 : Since w0 w0 := since_refl _
  clear hAL hs
  go_enter Tryz.func57, Tryz.ntmps57
  go_upto_region 1 with (fail)
  rw [← Hw0.out]
  go_wp2
  go_loopw [7, 12] (fun u i wr => ∃ k : Nat, k ≤ ls.length ∧ i = .int .i64 k ∧ Own wr w0.heap.size u (keptB (restB n r ls) (upto k)) ∧ Since w0 wr) (fun _ i _ => ls.length - (intOf i).toNat)
  case atStart => exact ⟨0, Nat.zero_le _, rfl, by simpa [keptB, upto] using own_nil _ w0.heap.size, hs0⟩
  case round =>
    obtain ⟨k, hk, rfl, ho, hsr⟩ := hrel
    have Ho := Lib.hid ho
    clear ho hs0
    by_cases hlt : k < ls.length
    · obtain ⟨x, hx⟩ := getx ls k hlt
      obtain ⟨b, off, rfl, hcell⟩ := HL.out k x hx
      have d0 := hsr.cell hcell
      obtain ⟨y, hy⟩ : ∃ y, y = nextB n r ls k := ⟨_, rfl⟩
      have hcall := ssNext_any _ _ _ _ n r ls k wr (H.out.keep hsr.below) ((HL0.out.keep Hb0.out).keep hsr.below) Hs.out (by rw [← Hs.out.len]; exact hlt)
      rw [← hy] at hcall
      have Hcall := Lib.hid hcall
      have HS : Hid (restB n r ls (k : Int) = (y == x)) := by show _ = _; unfold restB; rw [Int.toNat_natCast, ← hy, getD_of hx]
      have m3 : IntKind.i64.wrap ((k : Int) + 1) = (k : Int) + 1 := wr64 _ (by omega) (by omega)
      have Hlen : Hid ((keptB (restB n r ls) (upto k)).length + 1 ≤ 17592186044416) := by
        have := kept_le (restB n r ls) (upto k)
        rw [upto_len] at this
        show _ ≤ _
        omega
      clear hx hcell hcall hy
      go_wp2_with fail
      refine Hcall.out.mono ?_
      rintro e w1 ⟨rfl, hb1⟩
      have hs1 : Since w0 w1 := hsr.trans hb1
      have Ho1 := Lib.hid (Ho.out.keep hb1)
      clear hb1 hsr
      cases hp : (y == x)
      · have Hp : Hid (restB n r ls (k : Int) = false) := by show _ = _; rw [HS.out, hp]
        have hp' : (y != x) = true := by simp [bne, hp]
        clear hp
        go_wp2_with (at_builtin; refine app_int_s rfl _ _ rfl rfl (Ho1.out.since (since_alloc _ (since_refl _))) w1.heap.size k rfl (by simp [go_sem]) Hlen.out (since_alloc _ hs1) ?_; intro g cc w2 ho2 hs3)
        have Ho3 := Lib.hid ho2
        have Hs3 := Lib.hid hs3
        clear ho2 hs3 hs1
        go_wp2
        go_roundw
        case rel => exact ⟨k + 1, by omega, by go_num, by rw [kept_snoc', Hp.out]; exact Ho3.out, Hs3.out⟩
        case measure => simp [intOf]; omega
      · have Hp : Hid (restB n r ls (k : Int) = true) := by show _ = _; rw [HS.out, hp]
        have hp' : (y != x) = false := by simp [bne, hp]
        clear hp
        go_wp2
        go_roundw
        case rel => exact ⟨k + 1, by omega, by go_num, by rw [kept_snoc', Hp.out]; simpa using Ho1.out, hs1⟩
        case measure => simp [intOf]; omega
    · obtain rfl : k = ls.length := by omega
      go_wp2
      go_ret
      exact ⟨_, rfl, Ho.out.mono Hb0.out.size, Since.after Hb0.out hsr⟩
theorem en1_ent : ∀ args w, (callFunc 126 args).run Tryz.prog w = .ok (.enter 126 args) w := enters_of Tryz.func126 (by kernel_rfl) rfl
set_option maxHeartbeats 1600000 in
theorem en1_any (ve vi vn vl : Value) (n : Net) (r : Int) (ls : List Int) (k b : Nat) (w : World) (h : NetIn w ve vi vn n) (hl : IntS w vl ls) (hs : SitP n r ls) (hk : k < ls.length)
    (c0 : w.cell? ⟨b, 0, none⟩ = some ve) (c1 : w.cell? ⟨b, 1, none⟩ = some vi) (c2 : w.cell? ⟨b, 2, none⟩ = some vn) (c3 : w.cell? ⟨b + 1, 0, none⟩ = some (.int .i64 r)) (c4 : w.cell? ⟨b + 1 + 1, 0, none⟩ = some vl) :
    Calls Tryz.prog 126 #[.int .i64 k, .pointer (some ⟨b, 0, none⟩), .pointer (some ⟨b + 1, 0, none⟩), .pointer (some ⟨b + 1 + 1, 0, none⟩)] w fun e w' => e = .returned (.bool (restB n r ls k)) ∧ Below w.heap.size w w' := by
  have HN := Lib.hid h
  have HL := Lib.hid hl
  have Hs := Lib.hid hs
  have hkn : k < n.ends.length := by rw [← hs.len]; exact hk
  obtain ⟨m1, bl, ol, cl, x, e0, rfl, hm1, hg0, hg1, hd⟩ := lab_at hl (x := (k : Int)) (by omega) (by omega)
  obtain rfl : k = m1 := by omega
  rw [Int.toNat_natCast] at hg1
  obtain ⟨_, _, hv0, hlL, hmL, _⟩ := id hl
  cases hv0
  unfold maxLen at hmL
  obtain ⟨⟨A, c, rfl, hlc, hm, _⟩, ⟨A2, c2', rfl, _, hm2', _⟩, ⟨A3, c3', rfl, _, hm3', _⟩⟩ := h
  have q0 := have_cell c0
  have q1 := have_cell c1
  have q2 := have_cell c2
  have q3 := have_cell c3
  have q4 := have_cell c4
  have qd := have_cell hd
  obtain ⟨y, hy⟩ : ∃ y, y = nextB n r ls k := ⟨_, rfl⟩
  have HS : Hid (restB n r ls (k : Int) = (y == x)) := by show _ = _; unfold restB; rw [Int.toNat_natCast, ← hy, hg1]
  have Hc : Hid (∀ W, Since w W → Calls Tryz.prog 55 #[.agg #[.slice A n.ends.length c, .slice A2 n.ids.length c2', .slice A3 n.inputs.length c3'], .int .i64 r, .slice (some ⟨bl, ol, none⟩) ls.length cl, .int .i64 k] W fun e w' => e = .returned (.int .i64 y) ∧ Below W.heap.size W w') := fun W hW => by
    rw [hy]; exact nextState_any _ _ _ _ n r ls k W (HN.out.keep hW.below) (HL.out.keep hW.below) Hs.out hkn
  clear hl hs c0 c1 c2 c3 c4 hd hy hg0 hg1 e0
  go_enter Tryz.func126, Tryz.ntmps126
  go_upto_region 1 with (fail)
  refine wp_region_flow 11 (Since w) (by kernel_rfl) (by kernel_rfl) (by simp) (since_drew (since_refl _)) ?_
  simp only [List.take_succ_cons, List.take_zero, List.drop_succ_cons, List.drop_zero]
  refine flow_val (v := ?_) rfl ?_ ?_; rotate_left; (intro W hW; go_simp; with_reducible rfl)
  simp only [Act.put, List.setIfInBounds_toArray, List.set_cons_succ, List.set_cons_zero]
  refine flow_val (v := ?_) rfl ?_ ?_; rotate_left; (intro W hW; go_simp; with_reducible rfl)
  simp only [Act.put, List.setIfInBounds_toArray, List.set_cons_succ, List.set_cons_zero]
  refine flow_val (v := ?_) rfl ?_ ?_; rotate_left; (intro W hW; go_simp; with_reducible rfl)
  simp only [Act.put, List.setIfInBounds_toArray, List.set_cons_succ, List.set_cons_zero]
  refine flow_val (v := ?_) rfl ?_ ?_; rotate_left; (intro W hW; go_simp; with_reducible rfl)
  simp only [Act.put, List.setIfInBounds_toArray, List.set_cons_succ, List.set_cons_zero]
  refine flow_op ?_ rfl ?_ ?_; rotate_left; (intro W hW; unfold Gives; go_simp; (with_reducible refine (Hc.out W hW).mono ?_); rintro e W' ⟨rfl, hb3⟩; first | (refine ⟨?_, Since.trans hW hb3⟩; with_reducible rfl) | (subst hb3; refine ⟨?_, hW⟩; with_reducible rfl))
  simp only [Act.put, List.setIfInBounds_toArray, List.set_cons_succ, List.set_cons_zero]
  refine flow_val (v := ?_) rfl ?_ ?_; rotate_left; (intro W hW; go_simp; with_reducible rfl)
  simp only [Act.put, List.setIfInBounds_toArray, List.set_cons_succ, List.set_cons_zero]
  refine flow_val (v := ?_) rfl ?_ ?_; rotate_left; (intro W hW; go_simp; with_reducible rfl)
  simp only [Act.put, List.setIfInBounds_toArray, List.set_cons_succ, List.set_cons_zero]
  refine flow_val (v := ?_) rfl ?_ ?_; rotate_left; (intro W hW; go_simp; with_reducible rfl)
  simp only [Act.put, List.setIfInBounds_toArray, List.set_cons_succ, List.set_cons_zero]
  refine flow_val (v := ?_) rfl ?_ ?_; rotate_left; (intro W hW; go_simp; with_reducible rfl)
  simp only [Act.put, List.setIfInBounds_toArray, List.set_cons_succ, List.set_cons_zero]
  refine flow_val (v := ?_) rfl ?_ ?_; rotate_left; (intro W hW; go_simp; with_reducible rfl)
  simp only [Act.put, List.setIfInBounds_toArray, List.set_cons_succ, List.set_cons_zero]
  refine flow_val (v := ?_) rfl ?_ ?_; rotate_left; (intro W hW; go_simp; with_reducible rfl)
  simp only [Act.put, List.setIfInBounds_toArray, List.set_cons_succ, List.set_cons_zero]
  intro W hW
  have HW := Lib.hid hW
  clear hW
  go_wp2
  go_ret
  exact ⟨congrArg (fun b => Ending.returned (.bool b)) HS.out.symm, HW.out⟩
set_option maxRecDepth 100000 in
set_option maxHeartbeats 4000000 in
theorem enabledNodes_any (ve vi vn vl : Value) (n : Net) (r : Int) (ls : List Int) (w : World) (h : NetIn w ve vi vn n) (hl : IntS w vl ls) (hs : SitP n r ls) :
    Calls Tryz.prog 58 #[.agg #[ve, vi, vn], .int .i64 r, vl] w fun e w' => ∃ u, e = .returned u ∧ Own w' w.heap.size u (enB n r ls) ∧ Below w.heap.size w w' := by
  have HL0 := Lib.hid hl
  obtain ⟨AL, cL, rfl, hlL, hmL, _⟩ := hl
  unfold maxLen at hmL
  obtain ⟨w0, hw0⟩ : ∃ w0, w0 = (((w).alloc (.cells #[ve, vi, vn] 31)).alloc (.cells #[.int .i64 r] 3)).alloc (.cells #[.slice AL ls.length cL] 23) := ⟨_, rfl⟩
  have hb0 : Below w.heap.size w w0 := by rw [hw0]; exact ((((Below.refl _ _).alloc (by simp <;> omega) _).alloc (by simp <;> omega) _).alloc (by simp <;> omega) _)
  have H := Lib.hid (h.keep hb0)
  obtain ⟨h1, h2, h3⟩ := h.keep hb0
  obtain ⟨A, c, rfl, hlc, hm, hA⟩ := h1
  obtain ⟨A2, c2, rfl, _, hm2, _⟩ := h2
  obtain ⟨A3, c3, rfl, _, hm3, _⟩ := h3
  unfold maxLen at hm hm2 hm3
  have p00 : ∀ W, Since w0 W → W.cell? ⟨w.heap.size, 0, none⟩ = some (.slice A n.ends.length c) := have_cell (by rw [hw0]; simp [go_sem])
  have p01 : ∀ W, Since w0 W → W.cell? ⟨w.heap.size, 1, none⟩ = some (.slice A2 n.ids.length c2) := have_cell (by rw [hw0]; simp [go_sem])
  have p02 : ∀ W, Since w0 W → W.cell? ⟨w.heap.size, 2, none⟩ = some (.slice A3 n.inputs.length c3) := have_cell (by rw [hw0]; simp [go_sem])
  have p10 : ∀ W, Since w0 W → W.cell? ⟨w.heap.size + 1, 0, none⟩ = some (.int .i64 r) := have_cell (by rw [hw0]; simp [go_sem])
  have p20 : ∀ W, Since w0 W → W.cell? ⟨w.heap.size + 1 + 1, 0, none⟩ = some (.slice AL ls.length cL) := have_cell (by rw [hw0]; simp [go_sem])
  have Hb0 := Lib.hid hb0
  have Hw0 := Lib.hid hw0
  have HA := Lib.hid hA
  clear hA h
  clear hb0 hw0
  have HL := Lib.hid (HL0.out.keep Hb0.out)
  have hle : ls.length ≤ 1000000 := by have := netOk_len hs.net; have := hs.len; omega
  have HP : Hid (PredOn w0 126 #[.pointer (some ⟨w.heap.size, 0, none⟩), .pointer (some ⟨w.heap.size + 1, 0, none⟩), .pointer (some ⟨w.heap.size + 1 + 1, 0, none⟩)] (restB n r ls) (upto ls.length)) := by
    intro x hx X hX
    obtain ⟨k, hk, rfl⟩ := List.mem_map.1 hx
    have hk' := List.mem_range.1 hk
    exact en1_any (.slice A n.ends.length c) (.slice A2 n.ids.length c2) (.slice A3 n.inputs.length c3) (.slice AL ls.length cL) n r ls k w.heap.size X (H.out.keep hX) (HL.out.keep hX) hs hk' (p00 X hX) (p01 X hX) (p02 X hX) (p10 X hX) (p20 X hX)
  have hs0 : Since w0 w0 := since_refl _
  clear hs
  go_enter Tryz.func58, Tryz.ntmps58
  go_upto_region 1 with (fail)
  rw [← Hw0.out]
  go_wp2_with fail
  refine (numbersTo_any ls.length hle w0).mono ?_
  rintro e W3 ⟨u3, rfl, ho3, hb3⟩
  have Ho3 := Lib.hid ho3
  have Hs3 : Hid (Since w0 W3) := hb3
  clear ho3 hb3 hs0
  go_wp2_with fail
  refine (deleteFunc_any _ (upto ls.length) _ _ (restB n r ls) _ w0 Ho3.out Hs3.out (by rw [upto_len]; omega) en1_ent HP.out).mono ?_
  rintro e W4 ⟨u4, rfl, ho4, hs4⟩
  have Ho4 := Lib.hid ho4
  have Hs4 := Lib.hid hs4
  clear ho4 hs4
  go_wp2
  go_ret
  exact ⟨_, rfl, Ho4.out.mono Hb0.out.size, Since.after Hb0.out Hs4.out⟩
theorem put_len (n : Net) (r : Int) (ls : List Int) : ∀ (set out : List Int), (set.foldl (putB n r ls) out).length = out.length
  | [], _ => rfl
  | v :: set, out => by rw [List.foldl_cons, put_len n r ls set]; simp [putB]
theorem put_snoc {n : Net} {r : Int} {ls set out : List Int} {k : Nat} {x : Int} (hx : set[k]? = some x) : (set.take (k + 1)).foldl (putB n r ls) out = putB n r ls ((set.take k).foldl (putB n r ls) out) x := by
  rw [take_snoc hx, List.foldl_append]; rfl
end Go.Proofs.YtlfehdikgbgloaaGreat
namespace Go.Proofs.YtlfehdikgbgloaaGreat
open Go.RowKit
theorem tupib {a b : Int} {c d : Bool} (h1 : a = b) (h2 : c = d) : Ending.returned (.tuple #[.int .i64 a, .bool c]) = .returned (.tuple #[.int .i64 b, .bool d]) := by rw [h1, h2]
theorem tupub' {u : Value} {a b : Bool} (h : a = b) : Ending.returned (.tuple #[u, .bool a]) = .returned (.tuple #[u, .bool b]) := by rw [h]
-- EnabledNodes
def fnExactEnabledNodes_r1 (n : Net) (r : Int) (ls : List Int) : Bool := sitB n r ls
def fnExactEnabledNodes_d (n : Net) (r : Int) (ls : List Int) : List Int := if sitB n r ls then enB n r ls else []
theorem enB_le (n : Net) (r : Int) (ls : List Int) : (enB n r ls).length ≤ ls.length := by
  have := kept_le (restB n r ls) (upto ls.length)
  rw [upto_len] at this
  exact this
theorem fnExactEnabledNodes_dl (n : Net) (r : Int) (ls : List Int) (_ : szNet n ≤ 1048576) (hb : ls.length ≤ 1048576) : (fnExactEnabledNodes_d n r ls).length ≤ 4611686018427387904 := by
  unfold fnExactEnabledNodes_d
  split
  · have := enB_le n r ls; omega
  · simp
set_option maxHeartbeats 1600000 in
theorem fnExactEnabledNodes_spec (ve vi vn : Value) (n : Net) (r : Int) (vl : Value) (ls : List Int) (w : World) (h : NetIn w ve vi vn n) (_ : -9223372036854775808 ≤ r ∧ r ≤ 9223372036854775807) (hl : IntS w vl ls) (hsz : szNet n ≤ 1048576) (_ : ls.length ≤ 1048576) :
    Calls Tryz.prog 19 #[.agg #[ve, vi, vn], .int .i64 r, vl] w fun e w' => ∃ u, e = .returned (.tuple #[u, .bool (fnExactEnabledNodes_r1 n r ls)]) ∧ Own w' w.heap.size u (fnExactEnabledNodes_d n r ls) ∧ Below w.heap.size w w' := by
  obtain ⟨w0, hw0⟩ : ∃ w0, w0 = (w).alloc (.cells #[ve, vi, vn] 31) := ⟨_, rfl⟩
  have hb0 : Below w.heap.size w w0 := by rw [hw0]; exact ((Below.refl _ _).alloc (by simp) _)
  have H := Lib.hid (h.keep hb0)
  obtain ⟨h1, h2, h3⟩ := h.keep hb0
  obtain ⟨A, c, rfl, hlc, hm, hA⟩ := h1
  obtain ⟨A2, c2, rfl, _, hm2, _⟩ := h2
  obtain ⟨A3, c3, rfl, _, hm3, _⟩ := h3
  unfold maxLen at hm hm2 hm3
  have p00 : ∀ W, Since w0 W → W.cell? ⟨w.heap.size, 0, none⟩ = some (.slice A n.ends.length c) := have_cell (by rw [hw0]; simp)
  have p01 : ∀ W, Since w0 W → W.cell? ⟨w.heap.size, 1, none⟩ = some (.slice A2 n.ids.length c2) := have_cell (by rw [hw0]; simp)
  have p02 : ∀ W, Since w0 W → W.cell? ⟨w.heap.size, 2, none⟩ = some (.slice A3 n.inputs.length c3) := have_cell (by rw [hw0]; simp)
  have Hb0 := Lib.hid hb0
  have Hw0 := Lib.hid hw0
  have HA := Lib.hid hA
  clear hA h
  clear hb0 hw0
  have HL := Lib.hid (hl.keep Hb0.out)
  obtain ⟨AL, cL, rfl, hlL, hmL, _⟩ := hl
  unfold maxLen at hmL
  have hs0 : Since w0 w0 := since_refl _
  obtain ⟨Y, hY⟩ : ∃ Y, Y = sitB n r ls := ⟨_, rfl⟩
  have hcall := ssStates_any _ _ _ _ n r ls w0 H.out HL.out hsz
  rw [← hY] at hcall
  have Hcall := Lib.hid hcall
  have HY := Lib.hid hY
  clear hcall hY
  go_enter Tryz.func19, Tryz.ntmps19
  go_upto_region 1 with (fail)
  rw [← Hw0.out]
  go_wp2_with fail
  refine Hcall.out.mono ?_
  rintro e w1 ⟨rfl, hb1⟩
  have hs1 : Since w0 w1 := hb1
  clear hb1 hs0
  cases Y
  · have Hr1 : Hid (false = fnExactEnabledNodes_r1 n r ls) := HY.out
    have Hd : Hid (fnExactEnabledNodes_d n r ls = []) := by show _ = _; unfold fnExactEnabledNodes_d; rw [← HY.out]; rfl
    have Hs1 := Lib.hid hs1
    clear hs1
    go_wp2
    go_ret2
    exact ⟨_, tupub' Hr1.out, by rw [Hd.out]; exact own_nil _ _, Since.after Hb0.out Hs1.out⟩
  · have Hr1 : Hid (true = fnExactEnabledNodes_r1 n r ls) := HY.out
    have Hd : Hid (fnExactEnabledNodes_d n r ls = enB n r ls) := by show _ = _; unfold fnExactEnabledNodes_d; rw [← HY.out]; rfl
    have Hs := Lib.hid (sitP_of HY.out.symm)
    go_wp2_with fail
    refine (ssEnabled_any _ _ _ _ n r ls w1 (H.out.keep hs1.below) (HL.out.keep hs1.below) Hs.out).mono ?_
    rintro e w2 ⟨u, rfl, ho, hb⟩
    have Ho := Lib.hid (ho.mono (Since.below hs1).size)
    have Hs2 := Lib.hid (hs1.trans hb)
    clear ho hb hs1
    go_wp2
    go_ret2
    exact ⟨_, tupub' Hr1.out, by rw [Hd.out]; exact Ho.out.mono Hb0.out.size, Since.after Hb0.out Hs2.out⟩
set_option maxHeartbeats 1600000 in
theorem fnExactEnabledNodes_impl (ve vi vn : Value) (n : Net) (r : Int) (vl : Value) (ls : List Int) (w : World) (h : NetIn w ve vi vn n) (_ : -9223372036854775808 ≤ r ∧ r ≤ 9223372036854775807) (hl : IntS w vl ls) (hsz : szNet n ≤ 1048576) (_ : ls.length ≤ 1048576) :
    Calls Tryz.prog 20 #[.agg #[ve, vi, vn], .int .i64 r, vl] w fun e w' => ∃ u, e = .returned (.tuple #[u, .bool (fnExactEnabledNodes_r1 n r ls)]) ∧ Own w' w.heap.size u (fnExactEnabledNodes_d n r ls) ∧ Below w.heap.size w w' := by
  obtain ⟨w0, hw0⟩ : ∃ w0, w0 = (w).alloc (.cells #[ve, vi, vn] 31) := ⟨_, rfl⟩
  have hb0 : Below w.heap.size w w0 := by rw [hw0]; exact ((Below.refl _ _).alloc (by simp) _)
  have H := Lib.hid (h.keep hb0)
  obtain ⟨h1, h2, h3⟩ := h.keep hb0
  obtain ⟨A, c, rfl, hlc, hm, hA⟩ := h1
  obtain ⟨A2, c2, rfl, _, hm2, _⟩ := h2
  obtain ⟨A3, c3, rfl, _, hm3, _⟩ := h3
  unfold maxLen at hm hm2 hm3
  have p00 : ∀ W, Since w0 W → W.cell? ⟨w.heap.size, 0, none⟩ = some (.slice A n.ends.length c) := have_cell (by rw [hw0]; simp)
  have p01 : ∀ W, Since w0 W → W.cell? ⟨w.heap.size, 1, none⟩ = some (.slice A2 n.ids.length c2) := have_cell (by rw [hw0]; simp)
  have p02 : ∀ W, Since w0 W → W.cell? ⟨w.heap.size, 2, none⟩ = some (.slice A3 n.inputs.length c3) := have_cell (by rw [hw0]; simp)
  have Hb0 := Lib.hid hb0
  have Hw0 := Lib.hid hw0
  have HA := Lib.hid hA
  clear hA h
  clear hb0 hw0
  have HL := Lib.hid (hl.keep Hb0.out)
  obtain ⟨AL, cL, rfl, hlL, hmL, _⟩ := hl
  unfold maxLen at hmL
  have hs0 : Since w0 w0 := since_refl _
  obtain ⟨Y, hY⟩ : ∃ Y, Y = sitB n r ls := ⟨_, rfl⟩
  have hcall := situationOk_any _ _ _ _ n r ls w0 H.out HL.out hsz
  rw [← hY] at hcall
  have Hcall := Lib.hid hcall
  have HY := Lib.hid hY
  clear hcall hY
  go_enter Tryz.func20, Tryz.ntmps20
  go_upto_region 1 with (fail)
  rw [← Hw0.out]
  go_wp2_with fail
  refine Hcall.out.mono ?_
  rintro e w1 ⟨rfl, hb1⟩
  have hs1 : Since w0 w1 := hb1
  clear hb1 hs0
  cases Y
  · have Hr1 : Hid (false = fnExactEnabledNodes_r1 n r ls) := HY.out
    have Hd : Hid (fnExactEnabledNodes_d n r ls = []) := by show _ = _; unfold fnExactEnabledNodes_d; rw [← HY.out]; rfl
    have Hs1 := Lib.hid hs1
    clear hs1
    go_wp2
    go_ret2
    exact ⟨_, tupub' Hr1.out, by rw [Hd.out]; exact own_nil _ _, Since.after Hb0.out Hs1.out⟩
  · have Hr1 : Hid (true = fnExactEnabledNodes_r1 n r ls) := HY.out
    have Hd : Hid (fnExactEnabledNodes_d n r ls = enB n r ls) := by show _ = _; unfold fnExactEnabledNodes_d; rw [← HY.out]; rfl
    have Hs := Lib.hid (sitP_of HY.out.symm)
    go_wp2_with fail
    refine (enabledNodes_any _ _ _ _ n r ls w1 (H.out.keep hs1.below) (HL.out.keep hs1.below) Hs.out).mono ?_
    rintro e w2 ⟨u, rfl, ho, hb⟩
    have Ho := Lib.hid (ho.mono (Since.below hs1).size)
    have Hs2 := Lib.hid (hs1.trans hb)
    clear ho hb hs1
    go_wp2
    go_ret2
    exact ⟨_, tupub' Hr1.out, by rw [Hd.out]; exact Ho.out.mono Hb0.out.size, Since.after Hb0.out Hs2.out⟩
-- NextStateOf
def nxOk (n : Net) (r : Int) (ls : List Int) (v : Int) : Bool := sitB n r ls && inB 0 ((ls.length : Int) - 1) v && !restB n r ls v
def fnExactNextStateOf_r1 (n : Net) (r : Int) (ls : List Int) (v : Int) : Bool := nxOk n r ls v
def fnExactNextStateOf_r0 (n : Net) (r : Int) (ls : List Int) (v : Int) : Int := if nxOk n r ls v then nextB n r ls v.toNat else 0
set_option maxRecDepth 100000 in
set_option maxHeartbeats 1600000 in
theorem fnExactNextStateOf_spec (ve vi vn : Value) (n : Net) (r : Int) (vl : Value) (ls : List Int) (v : Int) (w : World) (h : NetIn w ve vi vn n) (_ : -9223372036854775808 ≤ r ∧ r ≤ 9223372036854775807) (hl : IntS w vl ls) (_ : -9223372036854775808 ≤ v ∧ v ≤ 9223372036854775807) (hsz : szNet n ≤ 1048576) (hbig : ls.length ≤ 1048576) :
    Calls Tryz.prog 13 #[.agg #[ve, vi, vn], .int .i64 r, vl, .int .i64 v] w fun e w' => e = .returned (.tuple #[.int .i64 (fnExactNextStateOf_r0 n r ls v), .bool (fnExactNextStateOf_r1 n r ls v)]) ∧ Below w.heap.size w w' := by
  obtain ⟨w0, hw0⟩ : ∃ w0, w0 = (w).alloc (.cells #[ve, vi, vn] 31) := ⟨_, rfl⟩
  have hb0 : Below w.heap.size w w0 := by rw [hw0]; exact ((Below.refl _ _).alloc (by simp) _)
  have H := Lib.hid (h.keep hb0)
  obtain ⟨h1, h2, h3⟩ := h.keep hb0
  obtain ⟨A, c, rfl, hlc, hm, hA⟩ := h1
  obtain ⟨A2, c2, rfl, _, hm2, _⟩ := h2
  obtain ⟨A3, c3, rfl, _, hm3, _⟩ := h3
  unfold maxLen at hm hm2 hm3
  have p00 : ∀ W, Since w0 W → W.cell? ⟨w.heap.size, 0, none⟩ = some (.slice A n.ends.length c) := have_cell (by rw [hw0]; simp)
  have p01 : ∀ W, Since w0 W → W.cell? ⟨w.heap.size, 1, none⟩ = some (.slice A2 n.ids.length c2) := have_cell (by rw [hw0]; simp)
  have p02 : ∀ W, Since w0 W → W.cell? ⟨w.heap.size, 2, none⟩ = some (.slice A3 n.inputs.length c3) := have_cell (by rw [hw0]; simp)
  have Hb0 := Lib.hid hb0
  have Hw0 := Lib.hid hw0
  have HA := Lib.hid hA
  clear hA h
  clear hb0 hw0
  have HL := Lib.hid (hl.keep Hb0.out)
  obtain ⟨AL, cL, rfl, hlL, hmL, _⟩ := hl
  unfold maxLen at hmL
  have m1 : IntKind.i64.wrap ((ls.length : Int) - 1) = (ls.length : Int) - 1 := wr64 _ (by omega) (by omega)
  have HSI : Hid (∀ W, Since w0 W → Calls Tryz.prog 49 #[.agg #[.slice A n.ends.length c, .slice A2 n.ids.length c2, .slice A3 n.inputs.length c3], .int .i64 r, .slice AL ls.length cL] W fun e w' => e = .returned (.bool (sitB n r ls)) ∧ Below W.heap.size W w') := fun W hW => ssStates_any _ _ _ _ n r ls W (H.out.keep hW.below) (HL.out.keep hW.below) hsz
  cases hg : (!sitB n r ls || !inB 0 ((ls.length : Int) - 1) v)
  · have hg' := hg
    simp only [Bool.or_eq_false_iff, Bool.not_eq_false'] at hg'
    obtain ⟨g1, g2⟩ := hg'
    have hv := inB_iff.1 g2
    obtain ⟨k, rfl⟩ := Int.eq_ofNat_of_zero_le hv.1
    have hs := sitP_of g1
    have hkl : k < ls.length := by omega
    obtain ⟨m1', bl, ol, cl, x, e0, hvl, hm1, hg0, hg1, hd⟩ := lab_at HL.out (x := (k : Int)) (by omega) (by omega)
    cases hvl
    obtain rfl : k = m1' := by omega
    rw [Int.toNat_natCast] at hg1
    have t4 := have_cell hd
    obtain ⟨y, hy⟩ : ∃ y, y = nextB n r ls k := ⟨_, rfl⟩
    have HNX : Hid (∀ W, Since w0 W → Calls Tryz.prog 51 #[.agg #[.slice A n.ends.length c, .slice A2 n.ids.length c2, .slice A3 n.inputs.length c3], .int .i64 r, .slice (some ⟨bl, ol, none⟩) ls.length cL, .int .i64 k] W fun e w' => e = .returned (.int .i64 y) ∧ Below W.heap.size W w') := fun W hW => by
      rw [hy]; exact ssNext_any _ _ _ _ n r ls k W (H.out.keep hW.below) (HL.out.keep hW.below) hs (by rw [← hs.len]; exact hkl)
    have HR1 : Hid (fnExactNextStateOf_r1 n r ls k = !(y == x)) := by show _ = _; unfold fnExactNextStateOf_r1 nxOk restB; rw [g1, g2, Int.toNat_natCast, ← hy, hg1]; rfl
    have HR0 : Hid (fnExactNextStateOf_r0 n r ls k = if (!(y == x)) = true then y else 0) := by show _ = _; have := HR1.out; unfold fnExactNextStateOf_r1 at this; unfold fnExactNextStateOf_r0; rw [this, Int.toNat_natCast, ← hy]
    have Hg := Lib.hid (And.intro g1 g2)
    have HSI2 : Hid (∀ W, Since w0 W → Calls Tryz.prog 49 #[.agg #[.slice A n.ends.length c, .slice A2 n.ids.length c2, .slice A3 n.inputs.length c3], .int .i64 r, .slice (some ⟨bl, ol, none⟩) ls.length cL] W fun e w' => e = .returned (.bool true) ∧ Below W.heap.size W w') := fun W hW => by rw [← g1]; exact HSI.out W hW
    have HIN : Hid (∀ W : World, Calls Tryz.prog 50 #[.int .i64 k, .int .i64 0, .int .i64 ((ls.length : Int) - 1)] W fun e w' => e = .returned (.bool true) ∧ W = w') := fun W => by rw [← g2]; exact l1In_b _ _ _ W
    clear hg g1 g2 hv hs hd hy e0 hg0 hg1 HSI
    go_enter Tryz.func13, Tryz.ntmps13
    go_upto_region 1 with (fail)
    rw [← Hw0.out]
    refine wp_region_flow 25 (Since w0) (by kernel_rfl) (by kernel_rfl) (by simp) (since_drew (since_refl _)) ?_
    simp only [List.take_succ_cons, List.take_zero, List.drop_succ_cons, List.drop_zero]
    refine flow_val (v := ?_) rfl ?_ ?_; rotate_left; (intro W hW; go_simp; with_reducible rfl)
    simp only [Act.put, List.setIfInBounds_toArray, List.set_cons_succ, List.set_cons_zero]
    refine flow_val (v := ?_) rfl ?_ ?_; rotate_left; (intro W hW; go_simp; with_reducible rfl)
    simp only [Act.put, List.setIfInBounds_toArray, List.set_cons_succ, List.set_cons_zero]
    refine flow_val (v := ?_) rfl ?_ ?_; rotate_left; (intro W hW; go_simp; with_reducible rfl)
    simp only [Act.put, List.setIfInBounds_toArray, List.set_cons_succ, List.set_cons_zero]
    refine flow_op ?_ rfl ?_ ?_; rotate_left; (intro W hW; unfold Gives; go_simp; (with_reducible refine (HSI2.out W hW).mono ?_); rintro e W' ⟨rfl, hb3⟩; first | (refine ⟨?_, Since.trans hW hb3⟩; with_reducible rfl) | (subst hb3; refine ⟨?_, hW⟩; with_reducible rfl))
    simp only [Act.put, List.setIfInBounds_toArray, List.set_cons_succ, List.set_cons_zero]
    refine flow_val (v := ?_) rfl ?_ ?_; rotate_left; (intro W hW; go_simp; with_reducible rfl)
    simp only [Act.put, List.setIfInBounds_toArray, List.set_cons_succ, List.set_cons_zero]
    refine flow_val (v := ?_) rfl ?_ ?_; rotate_left; (intro W hW; go_simp; with_reducible rfl)
    simp only [Act.put, List.setIfInBounds_toArray, List.set_cons_succ, List.set_cons_zero]
    refine flow_gval (v := ?_) rfl rfl ?_ ?_; rotate_left; (intro hb W hW; go_simp; with_reducible rfl)
    simp only [Act.put, List.setIfInBounds_toArray, List.set_cons_succ, List.set_cons_zero]
    refine flow_gval (v := ?_) rfl rfl ?_ ?_; rotate_left; (intro hb W hW; go_simp; with_reducible rfl)
    simp only [Act.put, List.setIfInBounds_toArray, List.set_cons_succ, List.set_cons_zero]
    refine flow_gval (v := ?_) rfl rfl ?_ ?_; rotate_left; (intro hb W hW; go_simp; with_reducible rfl)
    simp only [Act.put, List.setIfInBounds_toArray, List.set_cons_succ, List.set_cons_zero]
    refine flow_gval (v := ?_) rfl rfl ?_ ?_; rotate_left; (intro hb W hW; go_simp; with_reducible rfl)
    simp only [Act.put, List.setIfInBounds_toArray, List.set_cons_succ, List.set_cons_zero]
    refine flow_gop (v := ?_) rfl rfl ?_ ?_; rotate_left; (intro hb W hW; unfold Gives; go_simp; (with_reducible refine (HIN.out W).mono ?_); rintro e W' ⟨rfl, hb3⟩; first | (refine ⟨?_, Since.trans hW hb3⟩; with_reducible rfl) | (subst hb3; refine ⟨?_, hW⟩; with_reducible rfl))
    simp only [Act.put, List.setIfInBounds_toArray, List.set_cons_succ, List.set_cons_zero]
    refine flow_gval (v := ?_) rfl rfl ?_ ?_; rotate_left; (intro hb W hW; go_simp; with_reducible rfl)
    simp only [Act.put, List.setIfInBounds_toArray, List.set_cons_succ, List.set_cons_zero]
    first | refine flow_or rfl rfl ?_ | (refine flow_val (v := ?_) rfl ?_ ?_; rotate_left; (intro W hW; go_simp; with_reducible rfl))
    simp only [Act.put, List.setIfInBounds_toArray, List.set_cons_succ, List.set_cons_zero]
    refine flow_val (v := ?_) rfl ?_ ?_; rotate_left; (intro W hW; go_simp; with_reducible rfl)
    simp only [Act.put, List.setIfInBounds_toArray, List.set_cons_succ, List.set_cons_zero]
    refine flow_gval (v := ?_) rfl rfl ?_ ?_; rotate_left; (intro hb W hW; go_simp; with_reducible rfl)
    simp only [Act.put, List.setIfInBounds_toArray, List.set_cons_succ, List.set_cons_zero]
    refine flow_gval (v := ?_) rfl rfl ?_ ?_; rotate_left; (intro hb W hW; go_simp; with_reducible rfl)
    simp only [Act.put, List.setIfInBounds_toArray, List.set_cons_succ, List.set_cons_zero]
    refine flow_gval (v := ?_) rfl rfl ?_ ?_; rotate_left; (intro hb W hW; go_simp; with_reducible rfl)
    simp only [Act.put, List.setIfInBounds_toArray, List.set_cons_succ, List.set_cons_zero]
    refine flow_gval (v := ?_) rfl rfl ?_ ?_; rotate_left; (intro hb W hW; go_simp; with_reducible rfl)
    simp only [Act.put, List.setIfInBounds_toArray, List.set_cons_succ, List.set_cons_zero]
    refine flow_gop (v := ?_) rfl rfl ?_ ?_; rotate_left; (intro hb W hW; unfold Gives; go_simp; (with_reducible refine (HNX.out W hW).mono ?_); rintro e W' ⟨rfl, hb3⟩; first | (refine ⟨?_, Since.trans hW hb3⟩; with_reducible rfl) | (subst hb3; refine ⟨?_, hW⟩; with_reducible rfl))
    simp only [Act.put, List.setIfInBounds_toArray, List.set_cons_succ, List.set_cons_zero]
    refine flow_gval (v := ?_) rfl rfl ?_ ?_; rotate_left; (intro hb W hW; go_simp; with_reducible rfl)
    simp only [Act.put, List.setIfInBounds_toArray, List.set_cons_succ, List.set_cons_zero]
    refine flow_gval (v := ?_) rfl rfl ?_ ?_; rotate_left; (intro hb W hW; go_simp; with_reducible rfl)
    simp only [Act.put, List.setIfInBounds_toArray, List.set_cons_succ, List.set_cons_zero]
    refine flow_gval (v := ?_) rfl rfl ?_ ?_; rotate_left; (intro hb W hW; go_simp; with_reducible rfl)
    simp only [Act.put, List.setIfInBounds_toArray, List.set_cons_succ, List.set_cons_zero]
    refine flow_gval (v := ?_) rfl rfl ?_ ?_; rotate_left; (intro hb W hW; go_simp; with_reducible rfl)
    simp only [Act.put, List.setIfInBounds_toArray, List.set_cons_succ, List.set_cons_zero]
    refine flow_gval (v := ?_) rfl rfl ?_ ?_; rotate_left; (intro hb W hW; go_simp; with_reducible rfl)
    simp only [Act.put, List.setIfInBounds_toArray, List.set_cons_succ, List.set_cons_zero]
    first | refine flow_or rfl rfl ?_ | (refine flow_val (v := ?_) rfl ?_ ?_; rotate_left; (intro W hW; go_simp; with_reducible rfl))
    simp only [Act.put, List.setIfInBounds_toArray, List.set_cons_succ, List.set_cons_zero]
    intro W hW
    have q00 := lift_cell p00 hW
    have q01 := lift_cell p01 hW
    have q02 := lift_cell p02 hW
    have hWW : Since W W := since_refl _
    have HW := Lib.hid hW
    clear p00 p01 p02 t4
    cases hyx : (y == x)
    · have Hr1 : Hid (true = fnExactNextStateOf_r1 n r ls k) := by show _ = _; rw [HR1.out, hyx]; rfl
      have Hr0 : Hid (y = fnExactNextStateOf_r0 n r ls k) := by show _ = _; rw [HR0.out, hyx]; rfl
      clear hyx
      go_wp2_with fail
      refine (HNX.out W hW).mono ?_
      rintro e w2 ⟨rfl, hb⟩
      have Hs2 := Lib.hid (hW.trans hb)
      clear hb hW hWW
      go_wp2
      go_ret2
      exact ⟨tupib Hr0.out Hr1.out, Since.after Hb0.out Hs2.out⟩
    · have Hr1 : Hid (false = fnExactNextStateOf_r1 n r ls k) := by show _ = _; rw [HR1.out, hyx]; rfl
      have Hr0 : Hid (0 = fnExactNextStateOf_r0 n r ls k) := by show _ = _; rw [HR0.out, hyx]; rfl
      clear hyx hW hWW
      go_wp2
      go_ret2
      exact ⟨tupib Hr0.out Hr1.out, Since.after Hb0.out HW.out⟩
  · have hr : fnExactNextStateOf_r1 n r ls v = false := by
      unfold fnExactNextStateOf_r1 nxOk
      revert hg
      cases sitB n r ls <;> cases inB 0 ((ls.length : Int) - 1) v <;> simp
    have Hr1 := Lib.hid hr.symm
    have Hr0 : Hid (0 = fnExactNextStateOf_r0 n r ls v) := by show _ = _; unfold fnExactNextStateOf_r1 at hr; unfold fnExactNextStateOf_r0; rw [hr]; rfl
    clear hr
    go_enter Tryz.func13, Tryz.ntmps13
    go_upto_region 1 with (fail)
    rw [← Hw0.out]
    refine wp_region_flow 25 (Since w0) (by kernel_rfl) (by kernel_rfl) (by simp) (since_drew (since_refl _)) ?_
    simp only [List.take_succ_cons, List.take_zero, List.drop_succ_cons, List.drop_zero]
    refine flow_val (v := ?_) rfl ?_ ?_; rotate_left; (intro W hW; go_simp; with_reducible rfl)
    simp only [Act.put, List.setIfInBounds_toArray, List.set_cons_succ, List.set_cons_zero]
    refine flow_val (v := ?_) rfl ?_ ?_; rotate_left; (intro W hW; go_simp; with_reducible rfl)
    simp only [Act.put, List.setIfInBounds_toArray, List.set_cons_succ, List.set_cons_zero]
    refine flow_val (v := ?_) rfl ?_ ?_; rotate_left; (intro W hW; go_simp; with_reducible rfl)
    simp only [Act.put, List.setIfInBounds_toArray, List.set_cons_succ, List.set_cons_zero]
    refine flow_op ?_ rfl ?_ ?_; rotate_left; (intro W hW; unfold Gives; go_simp; (with_reducible refine (HSI.out W hW).mono ?_); rintro e W' ⟨rfl, hb3⟩; first | (refine ⟨?_, Since.trans hW hb3⟩; with_reducible rfl) | (subst hb3; refine ⟨?_, hW⟩; with_reducible rfl))
    simp only [Act.put, List.setIfInBounds_toArray, List.set_cons_succ, List.set_cons_zero]
    refine flow_val (v := ?_) rfl ?_ ?_; rotate_left; (intro W hW; go_simp; with_reducible rfl)
    simp only [Act.put, List.setIfInBounds_toArray, List.set_cons_succ, List.set_cons_zero]
    refine flow_val (v := ?_) rfl ?_ ?_; rotate_left; (intro W hW; go_simp; with_reducible rfl)
    simp only [Act.put, List.setIfInBounds_toArray, List.set_cons_succ, List.set_cons_zero]
    refine flow_gval (v := ?_) rfl rfl ?_ ?_; rotate_left; (intro hb W hW; go_simp; with_reducible rfl)
    simp only [Act.put, List.setIfInBounds_toArray, List.set_cons_succ, List.set_cons_zero]
    refine flow_gval (v := ?_) rfl rfl ?_ ?_; rotate_left; (intro hb W hW; go_simp; with_reducible rfl)
    simp only [Act.put, List.setIfInBounds_toArray, List.set_cons_succ, List.set_cons_zero]
    refine flow_gval (v := ?_) rfl rfl ?_ ?_; rotate_left; (intro hb W hW; go_simp; with_reducible rfl)
    simp only [Act.put, List.setIfInBounds_toArray, List.set_cons_succ, List.set_cons_zero]
    refine flow_gval (v := ?_) rfl rfl ?_ ?_; rotate_left; (intro hb W hW; go_simp; with_reducible rfl)
    simp only [Act.put, List.setIfInBounds_toArray, List.set_cons_succ, List.set_cons_zero]
    refine flow_gop (v := ?_) rfl rfl ?_ ?_; rotate_left; (intro hb W hW; unfold Gives; go_simp; (with_reducible refine (l1In_b _ _ _ W).mono ?_); rintro e W' ⟨rfl, hb3⟩; first | (refine ⟨?_, Since.trans hW hb3⟩; with_reducible rfl) | (subst hb3; refine ⟨?_, hW⟩; with_reducible rfl))
    simp only [Act.put, List.setIfInBounds_toArray, List.set_cons_succ, List.set_cons_zero]
    refine flow_gval (v := ?_) rfl rfl ?_ ?_; rotate_left; (intro hb W hW; go_simp; with_reducible rfl)
    simp only [Act.put, List.setIfInBounds_toArray, List.set_cons_succ, List.set_cons_zero]
    first | refine flow_or rfl rfl ?_ | (refine flow_val (v := ?_) rfl ?_ ?_; rotate_left; (intro W hW; go_simp; with_reducible rfl))
    simp only [Act.put, List.setIfInBounds_toArray, List.set_cons_succ, List.set_cons_zero]
    refine flow_val (v := ?_) rfl ?_ ?_; rotate_left; (intro W hW; go_simp; with_reducible rfl)
    simp only [Act.put, List.setIfInBounds_toArray, List.set_cons_succ, List.set_cons_zero]
    refine flow_dead rfl rfl (by simp [*]) ?_
    simp only [Act.put, List.setIfInBounds_toArray, List.set_cons_succ, List.set_cons_zero]
    refine flow_dead rfl rfl (by simp [*]) ?_
    simp only [Act.put, List.setIfInBounds_toArray, List.set_cons_succ, List.set_cons_zero]
    refine flow_dead rfl rfl (by simp [*]) ?_
    simp only [Act.put, List.setIfInBounds_toArray, List.set_cons_succ, List.set_cons_zero]
    refine flow_dead rfl rfl (by simp [*]) ?_
    simp only [Act.put, List.setIfInBounds_toArray, List.set_cons_succ, List.set_cons_zero]
    refine flow_dead rfl rfl (by simp [*]) ?_
    simp only [Act.put, List.setIfInBounds_toArray, List.set_cons_succ, List.set_cons_zero]
    refine flow_dead rfl rfl (by simp [*]) ?_
    simp only [Act.put, List.setIfInBounds_toArray, List.set_cons_succ, List.set_cons_zero]
    refine flow_dead rfl rfl (by simp [*]) ?_
    simp only [Act.put, List.setIfInBounds_toArray, List.set_cons_succ, List.set_cons_zero]
    refine flow_dead rfl rfl (by simp [*]) ?_
    simp only [Act.put, List.setIfInBounds_toArray, List.set_cons_succ, List.set_cons_zero]
    refine flow_dead rfl rfl (by simp [*]) ?_
    simp only [Act.put, List.setIfInBounds_toArray, List.set_cons_succ, List.set_cons_zero]
    refine flow_dead rfl rfl (by simp [*]) ?_
    simp only [Act.put, List.setIfInBounds_toArray, List.set_cons_succ, List.set_cons_zero]
    first | refine flow_or rfl rfl ?_ | (refine flow_val (v := ?_) rfl ?_ ?_; rotate_left; (intro W hW; go_simp; with_reducible rfl))
    simp only [Act.put, List.setIfInBounds_toArray, List.set_cons_succ, List.set_cons_zero]
    intro W hW
    have HW := Lib.hid hW
    clear hW
    go_wp2
    go_ret2
    exact ⟨tupib Hr0.out Hr1.out, Since.after Hb0.out HW.out⟩
set_option maxRecDepth 100000 in
set_option maxHeartbeats 1600000 in
theorem fnExactNextStateOf_impl (ve vi vn : Value) (n : Net) (r : Int) (vl : Value) (ls : List Int) (v : Int) (w : World) (h : NetIn w ve vi vn n) (_ : -9223372036854775808 ≤ r ∧ r ≤ 9223372036854775807) (hl : IntS w vl ls) (_ : -9223372036854775808 ≤ v ∧ v ≤ 9223372036854775807) (hsz : szNet n ≤ 1048576) (hbig : ls.length ≤ 1048576) :
    Calls Tryz.prog 16 #[.agg #[ve, vi, vn], .int .i64 r, vl, .int .i64 v] w fun e w' => e = .returned (.tuple #[.int .i64 (fnExactNextStateOf_r0 n r ls v), .bool (fnExactNextStateOf_r1 n r ls v)]) ∧ Below w.heap.size w w' := by
  obtain ⟨w0, hw0⟩ : ∃ w0, w0 = (w).alloc (.cells #[ve, vi, vn] 31) := ⟨_, rfl⟩
  have hb0 : Below w.heap.size w w0 := by rw [hw0]; exact ((Below.refl _ _).alloc (by simp) _)
  have H := Lib.hid (h.keep hb0)
  obtain ⟨h1, h2, h3⟩ := h.keep hb0
  obtain ⟨A, c, rfl, hlc, hm, hA⟩ := h1
  obtain ⟨A2, c2, rfl, _, hm2, _⟩ := h2
  obtain ⟨A3, c3, rfl, _, hm3, _⟩ := h3
  unfold maxLen at hm hm2 hm3
  have p00 : ∀ W, Since w0 W → W.cell? ⟨w.heap.size, 0, none⟩ = some (.slice A n.ends.length c) := have_cell (by rw [hw0]; simp)
  have p01 : ∀ W, Since w0 W → W.cell? ⟨w.heap.size, 1, none⟩ = some (.slice A2 n.ids.length c2) := have_cell (by rw [hw0]; simp)
  have p02 : ∀ W, Since w0 W → W.cell? ⟨w.heap.size, 2, none⟩ = some (.slice A3 n.inputs.length c3) := have_cell (by rw [hw0]; simp)
  have Hb0 := Lib.hid hb0
  have Hw0 := Lib.hid hw0
  have HA := Lib.hid hA
  clear hA h
  clear hb0 hw0
  have HL := Lib.hid (hl.keep Hb0.out)
  obtain ⟨AL, cL, rfl, hlL, hmL, _⟩ := hl
  unfold maxLen at hmL
  go_enter Tryz.func16, Tryz.ntmps16
  go_upto_region 1 with (fail)
  rw [← Hw0.out]
  refine wp_region_flow0 11 (Since w0) (since_refl _) ?_
  simp only [List.take_succ_cons, List.take_zero, List.drop_succ_cons, List.drop_zero]
  refine flow_val (v := ?_) rfl ?_ ?_; rotate_left; (intro W hW; go_simp; with_reducible rfl)
  simp only [Act.put, List.setIfInBounds_toArray, List.set_cons_succ, List.set_cons_zero]
  refine flow_val (v := ?_) rfl ?_ ?_; rotate_left; (intro W hW; go_simp; with_reducible rfl)
  simp only [Act.put, List.setIfInBounds_toArray, List.set_cons_succ, List.set_cons_zero]
  refine flow_val (v := ?_) rfl ?_ ?_; rotate_left; (intro W hW; go_simp; with_reducible rfl)
  simp only [Act.put, List.setIfInBounds_toArray, List.set_cons_succ, List.set_cons_zero]
  refine flow_op ?_ rfl ?_ ?_; rotate_left; (intro W hW; unfold Gives; go_simp; (with_reducible refine (situationOk_any _ _ _ _ n r ls W (H.out.keep hW.below) (HL.out.keep hW.below) hsz).mono ?_); rintro e W' ⟨rfl, hb3⟩; first | (refine ⟨?_, Since.trans hW hb3⟩; with_reducible rfl) | (subst hb3; refine ⟨?_, hW⟩; with_reducible rfl))
  simp only [Act.put, List.setIfInBounds_toArray, List.set_cons_succ, List.set_cons_zero]
  refine flow_val (v := ?_) rfl ?_ ?_; rotate_left; (intro W hW; go_simp; with_reducible rfl)
  simp only [Act.put, List.setIfInBounds_toArray, List.set_cons_succ, List.set_cons_zero]
  refine flow_val (v := ?_) rfl ?_ ?_; rotate_left; (intro W hW; go_simp; with_reducible rfl)
  simp only [Act.put, List.setIfInBounds_toArray, List.set_cons_succ, List.set_cons_zero]
  refine flow_gval (v := ?_) rfl rfl ?_ ?_; rotate_left; (intro hb W hW; go_simp; with_reducible rfl)
  simp only [Act.put, List.setIfInBounds_toArray, List.set_cons_succ, List.set_cons_zero]
  refine flow_gval (v := ?_) rfl rfl ?_ ?_; rotate_left; (intro hb W hW; go_simp; with_reducible rfl)
  simp only [Act.put, List.setIfInBounds_toArray, List.set_cons_succ, List.set_cons_zero]
  refine flow_gop (v := ?_) rfl rfl ?_ ?_; rotate_left; (intro hb W hW; unfold Gives; go_simp; (with_reducible refine (hasNode_b _ _ _ n.ends v W (H.out.keep hW.below).es).mono ?_); rintro e W' ⟨rfl, hb3⟩; first | (refine ⟨?_, Since.trans hW hb3⟩; with_reducible rfl) | (subst hb3; refine ⟨?_, hW⟩; with_reducible rfl))
  simp only [Act.put, List.setIfInBounds_toArray, List.set_cons_succ, List.set_cons_zero]
  refine flow_gval (v := ?_) rfl rfl ?_ ?_; rotate_left; (intro hb W hW; go_simp; with_reducible rfl)
  simp only [Act.put, List.setIfInBounds_toArray, List.set_cons_succ, List.set_cons_zero]
  first | refine flow_or rfl rfl ?_ | (refine flow_val (v := ?_) rfl ?_ ?_; rotate_left; (intro W hW; go_simp; with_reducible rfl))
  simp only [Act.put, List.setIfInBounds_toArray, List.set_cons_succ, List.set_cons_zero]
  intro W hW
  cases hg : (!sitB n r ls || !nodeB n.ends v)
  · have hg' := hg
    simp only [Bool.or_eq_false_iff, Bool.not_eq_false'] at hg'
    obtain ⟨g1, g2⟩ := hg'
    unfold nodeB at g2
    have hv := inB_iff.1 g2
    obtain ⟨k, rfl⟩ := Int.eq_ofNat_of_zero_le hv.1
    have hs := sitP_of g1
    have hkl : k < ls.length := by rw [hs.len]; omega
    have g3 : inB 0 ((ls.length : Int) - 1) k = true := by rw [hs.len]; exact g2
    obtain ⟨m1', bl, ol, cl, x, e0, hvl, hm1, hg0, hg1, hd⟩ := lab_at HL.out (x := (k : Int)) (by omega) (by omega)
    cases hvl
    obtain rfl : k = m1' := by omega
    rw [Int.toNat_natCast] at hg1
    have t4 := lift_cell (have_cell hd) hW
    obtain ⟨y, hy⟩ : ∃ y, y = nextB n r ls k := ⟨_, rfl⟩
    have hc := nextState_any _ _ _ _ n r ls k W (H.out.keep hW.below) (HL.out.keep hW.below) hs (by rw [← hs.len]; exact hkl)
    rw [← hy] at hc
    have HNX := Lib.hid hc
    have HR1 : Hid (fnExactNextStateOf_r1 n r ls k = !(y == x)) := by show _ = _; unfold fnExactNextStateOf_r1 nxOk restB; rw [g1, g3, Int.toNat_natCast, ← hy, hg1]; rfl
    have HR0 : Hid (fnExactNextStateOf_r0 n r ls k = if (!(y == x)) = true then y else 0) := by show _ = _; have := HR1.out; unfold fnExactNextStateOf_r1 at this; unfold fnExactNextStateOf_r0; rw [this, Int.toNat_natCast, ← hy]
    have q00 := lift_cell p00 hW
    have q01 := lift_cell p01 hW
    have q02 := lift_cell p02 hW
    have hWW : Since W W := since_refl _
    clear hg g1 g2 g3 hv hs hd hy e0 hg0 hg1 hc p00 p01 p02
    go_wp2_with fail
    refine HNX.out.mono ?_
    rintro e w2 ⟨rfl, hb⟩
    have t5 := lift_cell t4 hb
    have hw2 : Since w2 w2 := since_refl _
    have Hs2 := Lib.hid (hW.trans hb)
    clear hb hW hWW t4
    cases hyx : (y == x)
    · have Hr1 : Hid (true = fnExactNextStateOf_r1 n r ls k) := by show _ = _; rw [HR1.out, hyx]; rfl
      have Hr0 : Hid (y = fnExactNextStateOf_r0 n r ls k) := by show _ = _; rw [HR0.out, hyx]; rfl
      go_wp2
      go_ret2
      exact ⟨tupib Hr0.out Hr1.out, Since.after Hb0.out Hs2.out⟩
    · have Hr1 : Hid (false = fnExactNextStateOf_r1 n r ls k) := by show _ = _; rw [HR1.out, hyx]; rfl
      have Hr0 : Hid (0 = fnExactNextStateOf_r0 n r ls k) := by show _ = _; rw [HR0.out, hyx]; rfl
      go_wp2
      go_ret2
      exact ⟨tupib Hr0.out Hr1.out, Since.after Hb0.out Hs2.out⟩
  · have hr : fnExactNextStateOf_r1 n r ls v = false := by
      unfold fnExactNextStateOf_r1 nxOk
      cases hsb : sitB n r ls
      · rfl
      · have hl := (sitP_of hsb).len
        rw [hsb] at hg
        unfold nodeB at hg
        rw [← hl] at hg
        have : inB 0 ((ls.length : Int) - 1) v = false := by simpa using hg
        rw [this]; rfl
    have Hr1 := Lib.hid hr.symm
    have Hr0 : Hid (0 = fnExactNextStateOf_r0 n r ls v) := by show _ = _; unfold fnExactNextStateOf_r1 at hr; unfold fnExactNextStateOf_r0; rw [hr]; rfl
    have HW := Lib.hid hW
    clear hr hW hg
    go_wp2
    go_ret2
    exact ⟨tupib Hr0.out Hr1.out, Since.after Hb0.out HW.out⟩
end Go.Proofs.YtlfehdikgbgloaaGreat
