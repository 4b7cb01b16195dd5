import Derived.Test.YtlfehdikgbgloaaGreatStab11
namespace Go.Proofs.YtlfehdikgbgloaaGreat
open Go.RowKit
theorem rc1_ent : ∀ args w, (callFunc 72 args).run Tryz.prog w = .ok (.enter 72 args) w := enters_of Tryz.func72 (by kernel_rfl) rfl
theorem rc1_any (x : Int) (w : World) : Calls Tryz.prog 72 #[.int .i64 x] w fun e w' => e = .returned (.bool (!posB x)) ∧ Below w.heap.size w w' := by
  have HR : Hid (decide (x < 0) = !posB x) := by
    show _ = _
    unfold posB
    by_cases h : 0 ≤ x
    · rw [decide_eq_true h, decide_eq_false (by omega)]; rfl
    · rw [decide_eq_false h, decide_eq_true (by omega)]; rfl
  go_enter Tryz.func72, Tryz.ntmps72
  go_wp2
  go_ret
  exact ⟨congrArg (fun b => Ending.returned (.bool b)) HR.out, Below.refl _ _⟩
set_option maxRecDepth 100000 in
set_option maxHeartbeats 1600000 in
theorem fnExactRunCentral_impl (ve vi vn : Value) (n : Net) (r : Int) (vl : Value) (ls : List Int) (vp : Value) (ps : List Int) (most : Int) (w : World) (h : NetIn w ve vi vn n) (_ : -9223372036854775808 ≤ r ∧ r ≤ 9223372036854775807) (hl : IntS w vl ls) (hps : IntS w vp ps) (_ : -9223372036854775808 ≤ most ∧ most ≤ 9223372036854775807) (hsz : szNet n ≤ 1048576) (hbig : ls.length ≤ 1048576) (hbig2 : ps.length ≤ 1048576) :
    Calls Tryz.prog 29 #[.agg #[ve, vi, vn], .int .i64 r, vl, vp, .int .i64 most] w fun e w' => ∃ u, e = .returned (.tuple #[u, .int .i64 (fnExactRunCentral_r1 n r ls ps most), .bool (fnExactRunCentral_r2 n r ls ps most)]) ∧ Own w' w.heap.size u (fnExactRunCentral_d n r ls ps most) ∧ Below w.heap.size w w' := by
  obtain ⟨w0, hw0⟩ : ∃ w0, w0 = (w).alloc (.cells #[ve, vi, vn] 31) := ⟨_, rfl⟩
  have hb0 : Below w.heap.size w w0 := by rw [hw0]; exact ((Below.refl _ _).alloc (by simp) _)
  have H := Lib.hid (h.keep hb0)
  obtain ⟨h1, h2, h3⟩ := h.keep hb0
  obtain ⟨A, c, rfl, hlc, hm, hA⟩ := h1
  obtain ⟨A2, c2, rfl, _, hm2, _⟩ := h2
  obtain ⟨A3, c3, rfl, _, hm3, _⟩ := h3
  unfold maxLen at hm hm2 hm3
  have p00 : ∀ W, Since w0 W → W.cell? ⟨w.heap.size, 0, none⟩ = some (.slice A n.ends.length c) := have_cell (by rw [hw0]; simp)
  have p01 : ∀ W, Since w0 W → W.cell? ⟨w.heap.size, 1, none⟩ = some (.slice A2 n.ids.length c2) := have_cell (by rw [hw0]; simp)
  have p02 : ∀ W, Since w0 W → W.cell? ⟨w.heap.size, 2, none⟩ = some (.slice A3 n.inputs.length c3) := have_cell (by rw [hw0]; simp)
  have Hb0 := Lib.hid hb0
  have Hw0 := Lib.hid hw0
  have HA := Lib.hid hA
  clear hA h
  clear hb0 hw0
  have HL := Lib.hid (hl.keep Hb0.out)
  have HPS := Lib.hid (hps.keep Hb0.out)
  obtain ⟨AL, cL, rfl, hlL, hmL, _⟩ := hl
  obtain ⟨AP, cP, rfl, hlP, hmP, hAP⟩ := hps
  unfold maxLen at hmL hmP
  have HS := Lib.hid (show ∀ k x, ps[k]? = some x → ∃ b off, AP = some ⟨b, off, none⟩ ∧ w0.cell? ⟨b, off + k, none⟩ = some (.int .i64 x) from fun k x hx => by obtain ⟨b, off, e, hc⟩ := hAP k x hx; exact ⟨b, off, e, bc Hb0.out hc⟩)
  clear hAP
  go_enter Tryz.func29, Tryz.ntmps29
  go_upto_region 1 with (fail)
  rw [← Hw0.out]
  refine wp_region_flow0 16 (Since w0) (since_refl _) ?_
  simp only [List.take_succ_cons, List.take_zero, List.drop_succ_cons, List.drop_zero]
  refine flow_val (v := ?_) rfl ?_ ?_; rotate_left; (intro W hW; go_simp; with_reducible rfl)
  simp only [Act.put, List.setIfInBounds_toArray, List.set_cons_succ, List.set_cons_zero]
  refine flow_val (v := ?_) rfl ?_ ?_; rotate_left; (intro W hW; go_simp; with_reducible rfl)
  simp only [Act.put, List.setIfInBounds_toArray, List.set_cons_succ, List.set_cons_zero]
  refine flow_val (v := ?_) rfl ?_ ?_; rotate_left; (intro W hW; go_simp; with_reducible rfl)
  simp only [Act.put, List.setIfInBounds_toArray, List.set_cons_succ, List.set_cons_zero]
  refine flow_op ?_ rfl ?_ ?_; rotate_left; (intro W hW; unfold Gives; go_simp; (with_reducible refine (situationOk_any _ _ _ _ n r ls W (H.out.keep hW.below) (HL.out.keep hW.below) hsz).mono ?_); rintro e W' ⟨rfl, hb3⟩; first | (refine ⟨?_, Since.trans hW hb3⟩; with_reducible rfl) | (subst hb3; refine ⟨?_, hW⟩; with_reducible rfl))
  simp only [Act.put, List.setIfInBounds_toArray, List.set_cons_succ, List.set_cons_zero]
  refine flow_val (v := ?_) rfl ?_ ?_; rotate_left; (intro W hW; go_simp; with_reducible rfl)
  simp only [Act.put, List.setIfInBounds_toArray, List.set_cons_succ, List.set_cons_zero]
  refine flow_val (v := ?_) rfl ?_ ?_; rotate_left; (intro W hW; go_simp; with_reducible rfl)
  simp only [Act.put, List.setIfInBounds_toArray, List.set_cons_succ, List.set_cons_zero]
  refine flow_gval (v := ?_) rfl rfl ?_ ?_; rotate_left; (intro hb W hW; go_simp; with_reducible rfl)
  simp only [Act.put, List.setIfInBounds_toArray, List.set_cons_succ, List.set_cons_zero]
  refine flow_gval (v := ?_) rfl rfl ?_ ?_; rotate_left; (intro hb W hW; go_simp; with_reducible rfl)
  simp only [Act.put, List.setIfInBounds_toArray, List.set_cons_succ, List.set_cons_zero]
  refine flow_gop (v := ?_) rfl rfl ?_ ?_; rotate_left; (intro hb W hW; unfold Gives; go_simp; (with_reducible refine (within_b _ _ _ W).mono ?_); rintro e W' ⟨rfl, hb3⟩; first | (refine ⟨?_, Since.trans hW hb3⟩; with_reducible rfl) | (subst hb3; refine ⟨?_, hW⟩; with_reducible rfl))
  simp only [Act.put, List.setIfInBounds_toArray, List.set_cons_succ, List.set_cons_zero]
  refine flow_gval (v := ?_) rfl rfl ?_ ?_; rotate_left; (intro hb W hW; go_simp; with_reducible rfl)
  simp only [Act.put, List.setIfInBounds_toArray, List.set_cons_succ, List.set_cons_zero]
  first | refine flow_or rfl rfl ?_ | (refine flow_val (v := ?_) rfl ?_ ?_; rotate_left; (intro W hW; go_simp; with_reducible rfl))
  simp only [Act.put, List.setIfInBounds_toArray, List.set_cons_succ, List.set_cons_zero]
  refine flow_val (v := ?_) rfl ?_ ?_; rotate_left; (intro W hW; go_simp; with_reducible rfl)
  simp only [Act.put, List.setIfInBounds_toArray, List.set_cons_succ, List.set_cons_zero]
  refine flow_gval (v := ?_) rfl rfl ?_ ?_; rotate_left; (intro hb W hW; go_simp; with_reducible rfl)
  simp only [Act.put, List.setIfInBounds_toArray, List.set_cons_succ, List.set_cons_zero]
  refine flow_gop (v := ?_) rfl rfl ?_ ?_; rotate_left; (intro hb W hW; unfold Gives; go_simp; (with_reducible refine (within_b _ _ _ W).mono ?_); rintro e W' ⟨rfl, hb3⟩; first | (refine ⟨?_, Since.trans hW hb3⟩; with_reducible rfl) | (subst hb3; refine ⟨?_, hW⟩; with_reducible rfl))
  simp only [Act.put, List.setIfInBounds_toArray, List.set_cons_succ, List.set_cons_zero]
  refine flow_gval (v := ?_) rfl rfl ?_ ?_; rotate_left; (intro hb W hW; go_simp; with_reducible rfl)
  simp only [Act.put, List.setIfInBounds_toArray, List.set_cons_succ, List.set_cons_zero]
  first | refine flow_or rfl rfl ?_ | (refine flow_val (v := ?_) rfl ?_ ?_; rotate_left; (intro W hW; go_simp; with_reducible rfl))
  simp only [Act.put, List.setIfInBounds_toArray, List.set_cons_succ, List.set_cons_zero]
  intro W hW
  cases hg : (!sitB n r ls || !inB 1 100 (ps.length : Int) || !inB 0 2000 most)
  · have hg' := hg
    simp only [Bool.or_eq_false_iff, Bool.not_eq_false'] at hg'
    obtain ⟨⟨g1, g3⟩, g2⟩ := hg'
    have hs := sitP_of g1
    have hmo := inB_iff.1 g2
    have hpl := inB_iff.1 g3
    obtain ⟨mo, rfl⟩ := Int.eq_ofNat_of_zero_le hmo.1
    have hmo2 : mo ≤ 2000 := by omega
    have hpl1 : 1 ≤ ps.length := by omega
    have Hpre : Hid (rcPre n r ls ps mo = true) := by show _ = _; unfold rcPre; rw [g1, g2, g3]; rfl
    have Hs := Lib.hid hs
    have hl40 := cur40 hs
    have hl0 : 0 < ls.length := by have := hs.len; have := netOk_len hs.net; omega
    have HW := Lib.hid hW
    have Hlen := Lib.hid hs.len
    obtain ⟨z, hz⟩ : ∃ z, z = ps.any (fun x => !posB x) := ⟨_, rfl⟩
    have hcf := containsFunc_any _ ps _ #[] (fun x => !posB x) W (HPS.out.keep hW.below) rc1_ent (fun x _ X _ => rc1_any x X)
    rw [← hz] at hcf
    have Hcf := Lib.hid hcf
    have Hz := Lib.hid hz
    clear hg g1 g2 g3 hs hmo hpl hcf hz
    go_wp2_with fail
    refine Hcf.out.mono ?_
    rintro e w1 ⟨rfl, hb1⟩
    have hs1 : Since w0 w1 := HW.out.trans hb1
    clear hb1 hW
    cases z
    · have hpos : ps.all posB = true := by
        rw [List.all_eq_true]
        intro x hx
        have := Hz.out.symm
        rw [List.any_eq_false] at this
        simpa using this x hx
      have hok : rcOk n r ls ps mo = true := by unfold rcOk; rw [Hpre.out, hpos]; rfl
      have HG := Lib.hid (rc_good hok)
      have Hpos := Lib.hid hpos
      obtain ⟨R, hR⟩ : ∃ R, R = cenB n r ps mo ls 0 := ⟨_, rfl⟩
      rw [← hR] at HG
      have HR := Lib.hid hR
      clear hok hpos hR
      have hz1 : ((ps.length : Int) = 0) = False := by simp; intro e; rw [e] at hpl1; simp at hpl1
      have hz2 : (ps.length = 0) = False := by simp; intro e; rw [e] at hpl1; simp at hpl1
      have hz3 : (ps = []) = False := by simp; intro e; rw [e] at hpl1; simp at hpl1
      go_wp2_with fail
      refine (clone_any _ ls w1 (HL.out.keep hs1.below) (by omega)).mono ?_
      rintro e w2 ⟨u1, rfl, ho1, hb1⟩
      rcases ho1.cases with ⟨-, e1⟩ | ⟨g, c1, rfl, hg1, hg2⟩
      · simp [e1] at hl0
      have hgw : w0.heap.size ≤ g := Nat.le_trans (Since.below hs1).size hg1
      have Hs2 := Lib.hid (show Since w0 w2 from hs1.trans hb1)
      have Ho1 := Lib.hid (ho1.mono (Since.below hs1).size)
      clear ho1 hb1 hs1 hg1 hg2
      go_wp2
      go_loopw [38] (fun c wr => ∃ (k : Nat) (cur : List Int), k ≤ mo ∧ c = .int .i64 k ∧ Own wr w0.heap.size (.slice (some ⟨g, 0, none⟩) ls.length c1) cur ∧ SitP n r cur ∧ cenB n r ps (mo - k) cur k = R ∧ Since w0 wr) (fun c _ => mo - (intOf c).toNat)
      case atStart => exact ⟨0, ls, Nat.zero_le _, rfl, Ho1.out, Hs.out, by rw [HR.out, Nat.sub_zero], Hs2.out⟩
      case round =>
        obtain ⟨k, cur, hk, rfl, ho, hsc, hrr, hsr⟩ := hrel
        have Hsc := Lib.hid hsc
        have Hrr := Lib.hid hrr
        have Ho := Lib.hid ho
        have hcl : cur.length = ls.length := ho.len
        have Hcl := Lib.hid hcl
        clear hsc hrr ho hcl
        by_cases hkm : k < mo
        · obtain ⟨es, hes⟩ : ∃ es, es = enB n r cur := ⟨_, rfl⟩
          have hel : es.length ≤ 40 := by rw [hes]; have := enB_le n r cur; have := cur40 Hsc.out; omega
          have Hes := Lib.hid hes
          have hcall := enabledNodes_any _ _ _ _ n r cur wr (H.out.keep hsr.below) Ho.out.ints Hsc.out
          rw [← hes] at hcall
          have Hcall := Lib.hid hcall
          clear hes hcall
          go_wp2_with fail
          refine Hcall.out.mono ?_
          rintro e w3 ⟨u2, rfl, ho2, hb2⟩
          have hs3 : Since w0 w3 := hsr.trans hb2
          have Ho2 := Lib.hid (Ho.out.keep hb2)
          have HI := Lib.hid ho2.ints
          obtain ⟨Bu, du, rfl, hld, hmd, hdc⟩ := id ho2.ints
          unfold maxLen at hmd
          have Hdc := Lib.hid hdc
          clear ho2 hb2 hsr hdc
          by_cases h0 : es.length = 0
          · have hgt : ((es.length : Int) == 0) = true := by simp; exact List.length_eq_zero_iff.1 h0
            have HRe : Hid (R = (cur, (k : Int))) := by show _ = _; rw [← Hrr.out]; exact cen_end (by rw [← Hes.out]; exact h0) _ _
            clear h0
            go_wp2
            go_ret3
            exact ⟨_, tup3 (by rw [← HG.out.2.1, HRe.out]) HG.out.1, by rw [HG.out.2.2, HRe.out]; exact Ho2.out.mono Hb0.out.size, Since.after Hb0.out hs3⟩
          · have hgt : ((es.length : Int) == 0) = false := beq_eq_false_iff_ne.2 (by omega)
            obtain ⟨q1, pn, q2, v, e1, hp1, e2, hp2, hpk, hvc⟩ := pick_at Hes.out h0 hpl1 Hpos.out k
            obtain ⟨b1, off1, hAP, hcell1⟩ := HS.out q1 _ hp1
            have d1 := hs3.cell hcell1
            obtain ⟨b2, off2, hBu, d2⟩ := Hdc.out q2 _ hp2
            subst hAP hBu
            have lq1 : q1 < ps.length := lt_of_get hp1
            have lq2 : q2 < es.length := lt_of_get hp2
            have t1 : Int.tmod (k : Int) (ps.length : Int) = (q1 : Int) := by rw [Int.tmod_eq_emod_of_nonneg (by omega), e1]; rfl
            have t1' : (k : Int) % (ps.length : Int) = (q1 : Int) := by rw [e1]; rfl
            have t2 : Int.tmod (pn : Int) (es.length : Int) = (q2 : Int) := by rw [Int.tmod_eq_emod_of_nonneg (by omega), e2]; rfl
            have t2' : (pn : Int) % (es.length : Int) = (q2 : Int) := by rw [e2]; rfl
            have y1 : ((es.length : Int) = 0) = False := by simp; intro e; rw [e] at h0; simp at h0
            have y2 : (es.length = 0) = False := by simp; intro e; rw [e] at h0; simp at h0
            have y3 : (es = []) = False := by simp; intro e; rw [e] at h0; simp at h0
            have f1 := e1.symm
            have f2 := e2.symm
            obtain ⟨y, hy⟩ : ∃ y, y = nextB n r cur v := ⟨_, rfl⟩
            have hput : putB n r cur cur (v : Int) = cur.set v y := by unfold putB; rw [Int.toNat_natCast, hy]
            have Hrr2 : Hid (cenB n r ps (mo - (k + 1)) (cur.set v y) (k + 1) = R) := by
              show _ = _
              rw [← Hrr.out, show mo - k = (mo - (k + 1)) + 1 by omega, cen_succ (by rw [← Hes.out]; exact h0), hpk, hput]
            have Hmv : Hid (SitP n r (cur.set v y)) := by show SitP _ _ _; rw [← hput]; exact putB_ok Hsc.out Hsc.out (by omega) (by omega)
            have m3 : IntKind.i64.wrap ((k : Int) + 1) = (k : Int) + 1 := wr64 _ (by omega) (by omega)
            have hvl : v < ls.length := by rw [← Hcl.out]; exact hvc
            have hc := nextState_any _ _ _ _ n r cur v w3 (H.out.keep hs3.below) Ho2.out.ints Hsc.out (by rw [← Hsc.out.len]; exact hvc)
            rw [← hy] at hc
            have Hc := Lib.hid hc
            clear h0 hp1 hp2 hpk hcell1 e1 e2 hc hy hput
            go_wp2_with fail
            refine Hc.out.mono ?_
            rintro e w4 ⟨rfl, hb4⟩
            have ho4 := Ho2.out.keep hb4
            obtain ⟨zz, hzz⟩ := getx cur v hvc
            have cz := ho4.cell hzz
            have fz := ho4.free v
            have Hz1 := Lib.hid (ho4.set (k := v) y)
            have hs4 : Since w0 w4 := hs3.trans hb4
            have Hs5 := Lib.hid (show Since w0 (w4.setCell ⟨g, v, none⟩ (.int .i64 y)) from Below.setCell hs4 hgw _)
            clear ho4 hzz hb4 hs3 d1 d2
            go_wp2
            go_roundw
            case rel => exact ⟨k + 1, cur.set v y, by omega, by go_num, Hz1.out, Hmv.out, Hrr2.out, Hs5.out⟩
            case measure => simp [intOf]; omega
        · obtain rfl : k = mo := by omega
          have HRe : Hid (R = (cur, (k : Int))) := by show _ = _; rw [← Hrr.out, Nat.sub_self]; rfl
          go_wp2
          go_ret3
          exact ⟨_, tup3 (by rw [← HG.out.2.1, HRe.out]) HG.out.1, by rw [HG.out.2.2, HRe.out]; exact Ho.out.mono Hb0.out.size, Since.after Hb0.out hsr⟩
    · have hr : rcOk n r ls ps mo = false := by
        unfold rcOk
        rw [Hpre.out, Bool.true_and, List.all_eq_false]
        have := Hz.out.symm
        rw [List.any_eq_true] at this
        obtain ⟨x, hx, hn⟩ := this
        exact ⟨x, hx, by simpa using hn⟩
      have HB := Lib.hid (rc_bad hr)
      clear hr
      go_wp2
      go_ret3
      exact ⟨_, tup3 HB.out.2.1 HB.out.1, by rw [HB.out.2.2]; exact own_nil _ _, Since.after Hb0.out hs1⟩
  · have HB := Lib.hid (rc_bad (rc_no hg))
    have HW := Lib.hid hW
    clear hg hW
    go_wp2
    go_ret3
    exact ⟨_, tup3 HB.out.2.1 HB.out.1, by rw [HB.out.2.2]; exact own_nil _ _, Since.after Hb0.out HW.out⟩
end Go.Proofs.YtlfehdikgbgloaaGreat
