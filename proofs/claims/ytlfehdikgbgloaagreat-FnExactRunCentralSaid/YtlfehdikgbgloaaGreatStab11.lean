import Derived.Test.YtlfehdikgbgloaaGreatStab10
namespace Go.Proofs.YtlfehdikgbgloaaGreat
open Go.RowKit
theorem cen_end {n : Net} {r : Int} {ps cur : List Int} (h : (enB n r cur).length = 0) : ∀ (f : Nat) (k : Nat), cenB n r ps f cur k = (cur, (k : Int))
  | 0, _ => rfl
  | f + 1, k => by unfold cenB; rw [if_pos h]
theorem cen_succ {n : Net} {r : Int} {ps cur : List Int} (h : ¬ (enB n r cur).length = 0) {f k : Nat} : cenB n r ps (f + 1) cur k = cenB n r ps f (putB n r cur cur (pickB n r ps cur k)) (k + 1) := by
  rw [cenB, if_neg h]
theorem cen_len {n : Net} {r : Int} {ps : List Int} : ∀ (f : Nat) (cur : List Int) (k : Nat), (cenB n r ps f cur k).1.length = cur.length
  | 0, _, _ => rfl
  | f + 1, cur, k => by
    unfold cenB
    split
    · rfl
    · rw [cen_len f]; simp [putB]
theorem ints_one {w : World} {b : Nat} {x : Int} (h : w.cell? ⟨b, 0, none⟩ = some (.int .i64 x)) : IntS w (.slice (some ⟨b, 0, none⟩) 1 1) [x] :=
  ⟨some ⟨b, 0, none⟩, 1, rfl, Nat.le_refl _, by unfold maxLen; omega, fun k y hk => by
    match k, hk with
    | 0, hk => simp at hk; subst hk; exact ⟨b, 0, rfl, h⟩
    | k + 1, hk => simp at hk⟩
def posB (x : Int) : Bool := decide (0 ≤ x)
def rcPre (n : Net) (r : Int) (ls ps : List Int) (most : Int) : Bool := sitB n r ls && inB 1 100 (ps.length : Int) && inB 0 2000 most
def rcOk (n : Net) (r : Int) (ls ps : List Int) (most : Int) : Bool := rcPre n r ls ps most && ps.all posB
def fnExactRunCentral_r2 (n : Net) (r : Int) (ls ps : List Int) (most : Int) : Bool := rcOk n r ls ps most
def fnExactRunCentral_r1 (n : Net) (r : Int) (ls ps : List Int) (most : Int) : Int := if rcOk n r ls ps most then (cenB n r ps most.toNat ls 0).2 else 0
def fnExactRunCentral_d (n : Net) (r : Int) (ls ps : List Int) (most : Int) : List Int := if rcOk n r ls ps most then (cenB n r ps most.toNat ls 0).1 else []
theorem fnExactRunCentral_dl (n : Net) (r : Int) (ls ps : List Int) (most : Int) (_ : szNet n ≤ 1048576) (hb : ls.length ≤ 1048576) (_ : ps.length ≤ 1048576) : (fnExactRunCentral_d n r ls ps most).length ≤ 4611686018427387904 := by
  unfold fnExactRunCentral_d
  split
  · rw [cen_len]; omega
  · simp
theorem rc_no {n : Net} {r : Int} {ls ps : List Int} {m : Int} (h : (!sitB n r ls || !inB 1 100 (ps.length : Int) || !inB 0 2000 m) = true) : rcOk n r ls ps m = false := by
  unfold rcOk rcPre
  revert h
  cases sitB n r ls <;> cases inB 1 100 (ps.length : Int) <;> cases inB 0 2000 m <;> simp
theorem rc_bad {n : Net} {r : Int} {ls ps : List Int} {m : Int} (h : rcOk n r ls ps m = false) : false = fnExactRunCentral_r2 n r ls ps m ∧ 0 = fnExactRunCentral_r1 n r ls ps m ∧ fnExactRunCentral_d n r ls ps m = [] := by
  refine ⟨h.symm, ?_, ?_⟩
  · unfold fnExactRunCentral_r1; rw [h]; rfl
  · unfold fnExactRunCentral_d; rw [h]; rfl
theorem rc_good {n : Net} {r : Int} {ls ps : List Int} {mo : Nat} (h : rcOk n r ls ps mo = true) : true = fnExactRunCentral_r2 n r ls ps mo ∧ (cenB n r ps mo ls 0).2 = fnExactRunCentral_r1 n r ls ps mo ∧ fnExactRunCentral_d n r ls ps mo = (cenB n r ps mo ls 0).1 := by
  refine ⟨h.symm, ?_, ?_⟩
  · unfold fnExactRunCentral_r1; rw [h, if_pos rfl, Int.toNat_natCast]
  · unfold fnExactRunCentral_d; rw [h, if_pos rfl, Int.toNat_natCast]
/-- one pick -/
theorem pick_at {n : Net} {r : Int} {ps cur es : List Int} (hes : es = enB n r cur) (h0 : ¬ es.length = 0) (hp : 1 ≤ ps.length) (hpos : ps.all posB = true) (k : Nat) :
    ∃ (q1 pn q2 : Nat) (v : Nat), q1 = k % ps.length ∧ ps[q1]? = some (pn : Int) ∧ q2 = pn % es.length ∧ es[q2]? = some (v : Int) ∧ pickB n r ps cur k = (v : Int) ∧ v < cur.length := by
  have hq1 : k % ps.length < ps.length := Nat.mod_lt _ (by omega)
  obtain ⟨p, hpx⟩ := getx ps _ hq1
  rw [List.all_eq_true] at hpos
  have hp0 := hpos p (List.mem_of_getElem? hpx)
  unfold posB at hp0
  obtain ⟨pn, rfl⟩ := Int.eq_ofNat_of_zero_le (by simpa using hp0)
  have hq2 : pn % es.length < es.length := Nat.mod_lt _ (by omega)
  obtain ⟨v, hv⟩ := getx es _ hq2
  have hvb := enB_mem (by rw [← hes]; exact List.mem_of_getElem? hv)
  obtain ⟨vn, rfl⟩ := Int.eq_ofNat_of_zero_le hvb.1
  refine ⟨_, pn, _, vn, rfl, hpx, rfl, hv, ?_, by omega⟩
  unfold pickB
  rw [← hes, getD_of hpx, show ((pn : Int) % (es.length : Int)).toNat = pn % es.length by omega, getD_of hv]
set_option maxRecDepth 100000 in
set_option maxHeartbeats 1600000 in
theorem fnExactRunCentral_spec (ve vi vn : Value) (n : Net) (r : Int) (vl : Value) (ls : List Int) (vp : Value) (ps : List Int) (most : Int) (w : World) (h : NetIn w ve vi vn n) (_ : -9223372036854775808 ≤ r ∧ r ≤ 9223372036854775807) (hl : IntS w vl ls) (hps : IntS w vp ps) (_ : -9223372036854775808 ≤ most ∧ most ≤ 9223372036854775807) (hsz : szNet n ≤ 1048576) (hbig : ls.length ≤ 1048576) (hbig2 : ps.length ≤ 1048576) :
    Calls Tryz.prog 28 #[.agg #[ve, vi, vn], .int .i64 r, vl, vp, .int .i64 most] w fun e w' => ∃ u, e = .returned (.tuple #[u, .int .i64 (fnExactRunCentral_r1 n r ls ps most), .bool (fnExactRunCentral_r2 n r ls ps most)]) ∧ Own w' w.heap.size u (fnExactRunCentral_d n r ls ps most) ∧ Below w.heap.size w w' := by
  obtain ⟨w0, hw0⟩ : ∃ w0, w0 = (w).alloc (.cells #[ve, vi, vn] 31) := ⟨_, rfl⟩
  have hb0 : Below w.heap.size w w0 := by rw [hw0]; exact ((Below.refl _ _).alloc (by simp) _)
  have H := Lib.hid (h.keep hb0)
  obtain ⟨h1, h2, h3⟩ := h.keep hb0
  obtain ⟨A, c, rfl, hlc, hm, hA⟩ := h1
  obtain ⟨A2, c2, rfl, _, hm2, _⟩ := h2
  obtain ⟨A3, c3, rfl, _, hm3, _⟩ := h3
  unfold maxLen at hm hm2 hm3
  have p00 : ∀ W, Since w0 W → W.cell? ⟨w.heap.size, 0, none⟩ = some (.slice A n.ends.length c) := have_cell (by rw [hw0]; simp)
  have p01 : ∀ W, Since w0 W → W.cell? ⟨w.heap.size, 1, none⟩ = some (.slice A2 n.ids.length c2) := have_cell (by rw [hw0]; simp)
  have p02 : ∀ W, Since w0 W → W.cell? ⟨w.heap.size, 2, none⟩ = some (.slice A3 n.inputs.length c3) := have_cell (by rw [hw0]; simp)
  have Hb0 := Lib.hid hb0
  have Hw0 := Lib.hid hw0
  have HA := Lib.hid hA
  clear hA h
  clear hb0 hw0
  have HL := Lib.hid (hl.keep Hb0.out)
  obtain ⟨AL, cL, rfl, hlL, hmL, _⟩ := hl
  obtain ⟨AP, cP, rfl, hlP, hmP, hAP⟩ := hps
  unfold maxLen at hmL hmP
  have HS := Lib.hid (show ∀ k x, ps[k]? = some x → ∃ b off, AP = some ⟨b, off, none⟩ ∧ w0.cell? ⟨b, off + k, none⟩ = some (.int .i64 x) from fun k x hx => by obtain ⟨b, off, e, hc⟩ := hAP k x hx; exact ⟨b, off, e, bc Hb0.out hc⟩)
  clear hAP
  go_enter Tryz.func28, Tryz.ntmps28
  go_upto_region 1 with (fail)
  rw [← Hw0.out]
  refine wp_region_flow0 16 (Since w0) (since_refl _) ?_
  simp only [List.take_succ_cons, List.take_zero, List.drop_succ_cons, List.drop_zero]
  refine flow_val (v := ?_) rfl ?_ ?_; rotate_left; (intro W hW; go_simp; with_reducible rfl)
  simp only [Act.put, List.setIfInBounds_toArray, List.set_cons_succ, List.set_cons_zero]
  refine flow_val (v := ?_) rfl ?_ ?_; rotate_left; (intro W hW; go_simp; with_reducible rfl)
  simp only [Act.put, List.setIfInBounds_toArray, List.set_cons_succ, List.set_cons_zero]
  refine flow_val (v := ?_) rfl ?_ ?_; rotate_left; (intro W hW; go_simp; with_reducible rfl)
  simp only [Act.put, List.setIfInBounds_toArray, List.set_cons_succ, List.set_cons_zero]
  refine flow_op ?_ rfl ?_ ?_; rotate_left; (intro W hW; unfold Gives; go_simp; (with_reducible refine (ssStates_any _ _ _ _ n r ls W (H.out.keep hW.below) (HL.out.keep hW.below) hsz).mono ?_); rintro e W' ⟨rfl, hb3⟩; first | (refine ⟨?_, Since.trans hW hb3⟩; with_reducible rfl) | (subst hb3; refine ⟨?_, hW⟩; with_reducible rfl))
  simp only [Act.put, List.setIfInBounds_toArray, List.set_cons_succ, List.set_cons_zero]
  refine flow_val (v := ?_) rfl ?_ ?_; rotate_left; (intro W hW; go_simp; with_reducible rfl)
  simp only [Act.put, List.setIfInBounds_toArray, List.set_cons_succ, List.set_cons_zero]
  refine flow_val (v := ?_) rfl ?_ ?_; rotate_left; (intro W hW; go_simp; with_reducible rfl)
  simp only [Act.put, List.setIfInBounds_toArray, List.set_cons_succ, List.set_cons_zero]
  refine flow_gval (v := ?_) rfl rfl ?_ ?_; rotate_left; (intro hb W hW; go_simp; with_reducible rfl)
  simp only [Act.put, List.setIfInBounds_toArray, List.set_cons_succ, List.set_cons_zero]
  refine flow_gval (v := ?_) rfl rfl ?_ ?_; rotate_left; (intro hb W hW; go_simp; with_reducible rfl)
  simp only [Act.put, List.setIfInBounds_toArray, List.set_cons_succ, List.set_cons_zero]
  refine flow_gop (v := ?_) rfl rfl ?_ ?_; rotate_left; (intro hb W hW; unfold Gives; go_simp; (with_reducible refine (l1In_b _ _ _ W).mono ?_); rintro e W' ⟨rfl, hb3⟩; first | (refine ⟨?_, Since.trans hW hb3⟩; with_reducible rfl) | (subst hb3; refine ⟨?_, hW⟩; with_reducible rfl))
  simp only [Act.put, List.setIfInBounds_toArray, List.set_cons_succ, List.set_cons_zero]
  refine flow_gval (v := ?_) rfl rfl ?_ ?_; rotate_left; (intro hb W hW; go_simp; with_reducible rfl)
  simp only [Act.put, List.setIfInBounds_toArray, List.set_cons_succ, List.set_cons_zero]
  first | refine flow_or rfl rfl ?_ | (refine flow_val (v := ?_) rfl ?_ ?_; rotate_left; (intro W hW; go_simp; with_reducible rfl))
  simp only [Act.put, List.setIfInBounds_toArray, List.set_cons_succ, List.set_cons_zero]
  refine flow_val (v := ?_) rfl ?_ ?_; rotate_left; (intro W hW; go_simp; with_reducible rfl)
  simp only [Act.put, List.setIfInBounds_toArray, List.set_cons_succ, List.set_cons_zero]
  refine flow_gval (v := ?_) rfl rfl ?_ ?_; rotate_left; (intro hb W hW; go_simp; with_reducible rfl)
  simp only [Act.put, List.setIfInBounds_toArray, List.set_cons_succ, List.set_cons_zero]
  refine flow_gop (v := ?_) rfl rfl ?_ ?_; rotate_left; (intro hb W hW; unfold Gives; go_simp; (with_reducible refine (ssMost_any _ W).mono ?_); rintro e W' ⟨rfl, hb3⟩; first | (refine ⟨?_, Since.trans hW hb3⟩; with_reducible rfl) | (subst hb3; refine ⟨?_, hW⟩; with_reducible rfl))
  simp only [Act.put, List.setIfInBounds_toArray, List.set_cons_succ, List.set_cons_zero]
  refine flow_gval (v := ?_) rfl rfl ?_ ?_; rotate_left; (intro hb W hW; go_simp; with_reducible rfl)
  simp only [Act.put, List.setIfInBounds_toArray, List.set_cons_succ, List.set_cons_zero]
  first | refine flow_or rfl rfl ?_ | (refine flow_val (v := ?_) rfl ?_ ?_; rotate_left; (intro W hW; go_simp; with_reducible rfl))
  simp only [Act.put, List.setIfInBounds_toArray, List.set_cons_succ, List.set_cons_zero]
  intro W hW
  cases hg : (!sitB n r ls || !inB 1 100 (ps.length : Int) || !inB 0 2000 most)
  · have hg' := hg
    simp only [Bool.or_eq_false_iff, Bool.not_eq_false'] at hg'
    obtain ⟨⟨g1, g3⟩, g2⟩ := hg'
    have hs := sitP_of g1
    have hmo := inB_iff.1 g2
    have hpl := inB_iff.1 g3
    obtain ⟨mo, rfl⟩ := Int.eq_ofNat_of_zero_le hmo.1
    have hmo2 : mo ≤ 2000 := by omega
    have hpl1 : 1 ≤ ps.length := by omega
    have Hpre : Hid (rcPre n r ls ps mo = true) := by show _ = _; unfold rcPre; rw [g1, g2, g3]; rfl
    have Hs := Lib.hid hs
    have hl40 := cur40 hs
    have hl0 : 0 < ls.length := by have := hs.len; have := netOk_len hs.net; omega
    have HW := Lib.hid hW
    clear hg g1 g2 g3 hs hmo hpl
    go_wp2
    go_loopw [37] (fun i wr => ∃ k : Nat, k ≤ ps.length ∧ i = .int .i64 k ∧ (ps.take k).all posB = true ∧ wr = W) (fun i _ => ps.length - (intOf i).toNat)
    case atStart => exact ⟨0, Nat.zero_le _, rfl, rfl, rfl⟩
    case round =>
      obtain ⟨k, hk, rfl, hall, hww⟩ := hrel
      subst hww
      have Hall := Lib.hid hall
      clear hall
      by_cases hlt : k < ps.length
      · obtain ⟨x, hx⟩ := getx ps k hlt
        obtain ⟨b, off, rfl, hcell⟩ := HS.out k x hx
        have d0 := HW.out.cell hcell
        have Hx := Lib.hid hx
        have m3 : IntKind.i64.wrap ((k : Int) + 1) = (k : Int) + 1 := wr64 _ (by omega) (by omega)
        clear hx hcell
        by_cases hx0 : 0 ≤ x
        · have hxd : decide (x < 0) = false := decide_eq_false (by omega)
          have Hn : Hid ((ps.take (k + 1)).all posB = true) := by show _ = _; rw [take_snoc Hx.out, List.all_append, Hall.out]; simp [posB, hx0]
          clear hx0
          go_wp2
          go_roundw
          case rel => exact ⟨k + 1, by omega, by go_num, Hn.out, by first | rfl | trivial⟩
          case measure => simp [intOf]; omega
        · have hxd : decide (x < 0) = true := decide_eq_true (by omega)
          have hr : rcOk n r ls ps mo = false := by
            unfold rcOk
            rw [Hpre.out, Bool.true_and]
            exact all_stop Hx.out (by unfold posB; exact decide_eq_false hx0)
          have HB := Lib.hid (rc_bad hr)
          clear hr hx0
          go_wp2
          go_ret3
          exact ⟨_, tup3 HB.out.2.1 HB.out.1, by rw [HB.out.2.2]; exact own_nil _ _, Since.after Hb0.out HW.out⟩
      · have hpos : ps.all posB = true := by have := Hall.out; rwa [show k = ps.length by omega, List.take_length] at this
        have hok : rcOk n r ls ps mo = true := by unfold rcOk; rw [Hpre.out, hpos]; rfl
        have HG := Lib.hid (rc_good hok)
        have Hpos := Lib.hid hpos
        obtain ⟨R, hR⟩ : ∃ R, R = cenB n r ps mo ls 0 := ⟨_, rfl⟩
        rw [← hR] at HG
        have HR := Lib.hid hR
        have HWr := Lib.hid HW.out
        obtain rfl : k = ps.length := by omega
        clear hok hpos hR
        have hz1 : ((ps.length : Int) = 0) = False := by simp; intro e; rw [e] at hpl1; simp at hpl1
        have hz2 : (ps.length = 0) = False := by simp; intro e; rw [e] at hpl1; simp at hpl1
        have hz3 : (ps = []) = False := by simp; intro e; rw [e] at hpl1; simp at hpl1
        go_wp2_with fail
        refine (l1Own_any _ ls wr (HL.out.keep HW.out.below) hl0 (by omega)).mono ?_
        rintro e w1 ⟨u1, rfl, ho1, hb1⟩
        have hs1 : Since w0 w1 := HW.out.trans hb1
        have Ho1 := Lib.hid (ho1.mono (Since.below HW.out).size)
        clear ho1 hb1 hW
        go_wp2_with fail
        refine (ssEnabled_any _ _ _ _ n r ls w1 (H.out.keep hs1.below) Ho1.out.ints Hs.out).mono ?_
        rintro e w2 ⟨u2, rfl, ho2, hb2⟩
        have hs2 : Since w0 w2 := hs1.trans hb2
        have Ho2 := Lib.hid (Ho1.out.keep hb2)
        have HI2 := Lib.hid ho2.ints
        have Hs2 := Lib.hid hs2
        clear ho2 hb2 hs1 hs2
        go_wp2
        go_loopw [15, 16, 17] (fun u c e wr => ∃ (k : Nat) (cur : List Int), k ≤ mo ∧ c = .int .i64 k ∧ Own wr w0.heap.size u cur ∧ IntS wr e (enB n r cur) ∧ SitP n r cur ∧ cenB n r ps (mo - k) cur k = R ∧ Since w0 wr) (fun _ c _ _ => mo - (intOf c).toNat)
        case atStart => exact ⟨0, ls, Nat.zero_le _, rfl, Ho2.out, HI2.out, Hs.out, by rw [HR.out, Nat.sub_zero], Hs2.out⟩
        case round =>
          obtain ⟨k, cur, hk, rfl, ho, hi, hsc, hrr, hsr⟩ := hrel
          have Hsc := Lib.hid hsc
          have Hrr := Lib.hid hrr
          have Ho := Lib.hid ho
          obtain ⟨es, hes⟩ : ∃ es, es = enB n r cur := ⟨_, rfl⟩
          rw [← hes] at hi
          have HI := Lib.hid hi
          have hel : es.length ≤ 40 := by rw [hes]; have := enB_le n r cur; have := cur40 hsc; omega
          have Hes := Lib.hid hes
          obtain ⟨Bu, du, rfl, hld, hmd, hdc⟩ := hi
          unfold maxLen at hmd
          have Hdc := Lib.hid hdc
          clear hsc hrr ho hes hdc
          go_upto_region 11 with (fail)
          refine wp_region_flow0 8 (Since wr) (since_refl _) ?_
          simp only [List.take_succ_cons, List.take_zero, List.drop_succ_cons, List.drop_zero]
          refine flow_val (v := ?_) rfl ?_ ?_; rotate_left; (intro W hW; go_simp; with_reducible rfl)
          simp only [Act.put, List.setIfInBounds_toArray, List.set_cons_succ, List.set_cons_zero]
          refine flow_val (v := ?_) rfl ?_ ?_; rotate_left; (intro W hW; go_simp; with_reducible rfl)
          simp only [Act.put, List.setIfInBounds_toArray, List.set_cons_succ, List.set_cons_zero]
          refine flow_val (v := ?_) rfl ?_ ?_; rotate_left; (intro W hW; go_simp; with_reducible rfl)
          simp only [Act.put, List.setIfInBounds_toArray, List.set_cons_succ, List.set_cons_zero]
          refine flow_val (v := ?_) rfl ?_ ?_; rotate_left; (intro W hW; go_simp; with_reducible rfl)
          simp only [Act.put, List.setIfInBounds_toArray, List.set_cons_succ, List.set_cons_zero]
          refine flow_gval (v := ?_) rfl rfl ?_ ?_; rotate_left; (intro hb W hW; go_simp; with_reducible rfl)
          simp only [Act.put, List.setIfInBounds_toArray, List.set_cons_succ, List.set_cons_zero]
          refine flow_gval (v := ?_) rfl rfl ?_ ?_; rotate_left; (intro hb W hW; go_simp; with_reducible rfl)
          simp only [Act.put, List.setIfInBounds_toArray, List.set_cons_succ, List.set_cons_zero]
          refine flow_gval (v := ?_) rfl rfl ?_ ?_; rotate_left; (intro hb W hW; go_simp; with_reducible rfl)
          simp only [Act.put, List.setIfInBounds_toArray, List.set_cons_succ, List.set_cons_zero]
          first | refine flow_and rfl rfl ?_ | (refine flow_val (v := ?_) rfl ?_ ?_; rotate_left; (intro W hW; go_simp; with_reducible rfl))
          simp only [Act.put, List.setIfInBounds_toArray, List.set_cons_succ, List.set_cons_zero]
          intro W5 hW5
          have hs5 : Since w0 W5 := hsr.trans hW5
          have Ho5 := Lib.hid (Ho.out.keep hW5.below)
          have HdW := Lib.hid (show ∀ k x, es[k]? = some x → ∃ b off, Bu = some ⟨b, off, none⟩ ∧ W5.cell? ⟨b, off + k, none⟩ = some (.int .i64 x) from fun k x hx => by obtain ⟨b, off, e, hc⟩ := Hdc.out k x hx; exact ⟨b, off, e, hW5.cell hc⟩)
          clear hW5 hsr
          cases hb : (decide (0 < es.length) && decide (k < mo))
          · have HRe : Hid (R = (cur, (k : Int))) := by
              show _ = _
              rw [← Hrr.out]
              rw [Bool.and_eq_false_iff, decide_eq_false_iff_not, decide_eq_false_iff_not] at hb
              by_cases h0 : es.length = 0
              · exact cen_end (by rw [← Hes.out]; exact h0) _ _
              · have : mo - k = 0 := by omega
                rw [this]; rfl
            clear hb
            go_wp2
            go_ret3
            exact ⟨_, tup3 (by rw [← HG.out.2.1, HRe.out]) HG.out.1, by rw [HG.out.2.2, HRe.out]; exact Ho5.out.mono Hb0.out.size, Since.after Hb0.out hs5⟩
          · rw [Bool.and_eq_true, decide_eq_true_eq, decide_eq_true_eq] at hb
            have h0 : ¬ es.length = 0 := by omega
            have hkm2 : k < mo := by omega
            obtain ⟨q1, pn, q2, v, e1, hp1, e2, hp2, hpk, hvc⟩ := pick_at Hes.out h0 hpl1 Hpos.out k
            obtain ⟨b1, off1, hAP, hcell1⟩ := HS.out q1 _ hp1
            have d1 := hs5.cell hcell1
            obtain ⟨b2, off2, hBu, d2⟩ := HdW.out q2 _ hp2
            subst hAP hBu
            have lq1 : q1 < ps.length := lt_of_get hp1
            have lq2 : q2 < es.length := lt_of_get hp2
            have t1 : Int.tmod (k : Int) (ps.length : Int) = (q1 : Int) := by rw [Int.tmod_eq_emod_of_nonneg (by omega), e1]; rfl
            have t1' : (k : Int) % (ps.length : Int) = (q1 : Int) := by rw [e1]; rfl
            have t2 : Int.tmod (pn : Int) (es.length : Int) = (q2 : Int) := by rw [Int.tmod_eq_emod_of_nonneg (by omega), e2]; rfl
            have t2' : (pn : Int) % (es.length : Int) = (q2 : Int) := by rw [e2]; rfl
            have y1 : ((es.length : Int) = 0) = False := by simp; intro e; rw [e] at h0; simp at h0
            have y2 : (es.length = 0) = False := by simp; intro e; rw [e] at h0; simp at h0
            have y3 : (es = []) = False := by simp; intro e; rw [e] at h0; simp at h0
            have f1 := e1.symm
            have f2 := e2.symm
            have Hrr2 : Hid (cenB n r ps (mo - (k + 1)) (moveB n r cur [(v : Int)]) (k + 1) = R) := by
              show _ = _
              rw [← Hrr.out, show mo - k = (mo - (k + 1)) + 1 by omega, cen_succ (by rw [← Hes.out]; exact h0), hpk]
              rfl
            have Hmv : Hid (SitP n r (moveB n r cur [(v : Int)])) := moveB_ok Hsc.out _ _ Hsc.out (fun x hx => by simp at hx; omega)
            have m3 : IntKind.i64.wrap ((k : Int) + 1) = (k : Int) + 1 := wr64 _ (by omega) (by omega)
            have Hin : Hid (∀ x ∈ [(v : Int)], 0 ≤ x ∧ x < cur.length) := fun x hx => by simp at hx; omega
            obtain ⟨w6, hw6⟩ : ∃ w6, w6 = W5.alloc (.cells #[.int .i64 (v : Int)] 3) := ⟨_, rfl⟩
            have hs6 : Since w0 w6 := by rw [hw6]; exact since_alloc _ hs5
            have HI6 : Hid (IntS w6 (.slice (some ⟨W5.heap.size, 0, none⟩) 1 1) [(v : Int)]) := ints_one (by rw [hw6]; simp)
            have Ho6 : Hid (Own w6 w0.heap.size u15 cur) := by show Own _ _ _ _; rw [hw6]; exact Ho5.out.since (since_alloc _ (since_refl _))
            have Hs6 := Lib.hid hs6
            have Hw6 := Lib.hid hw6
            have Hcall := Lib.hid (ssMove_any _ _ _ _ _ n r cur [(v : Int)] w6 (H.out.keep Hs6.out.below) Ho6.out.ints HI6.out Hsc.out (by simp) Hin.out)
            rw [hw6] at Hcall
            clear h0 hb hp1 hp2 hpk hcell1 e1 e2 hw6 hs6
            go_wp2_with fail
            refine Hcall.out.mono ?_
            rw [← Hw6.out]
            rintro e w3 ⟨u3, rfl, ho3, hb3⟩
            have hs3 : Since w0 w3 := Hs6.out.trans hb3
            have Ho3 := Lib.hid (ho3.mono (Since.below Hs6.out).size)
            clear ho3 hb3 hs5 d1 d2
            go_wp2_with fail
            refine (ssEnabled_any _ _ _ _ n r (moveB n r cur [(v : Int)]) w3 (H.out.keep hs3.below) Ho3.out.ints Hmv.out).mono ?_
            rintro e w4 ⟨u4, rfl, ho4, hb4⟩
            have Hs4 := Lib.hid (hs3.trans hb4)
            have Ho4 := Lib.hid (Ho3.out.keep hb4)
            have HI4 := Lib.hid ho4.ints
            clear ho4 hb4 hs3
            go_wp2
            go_roundw
            case rel => exact ⟨k + 1, moveB n r cur [(v : Int)], by omega, by go_num, Ho4.out, HI4.out, Hmv.out, Hrr2.out, Hs4.out⟩
            case measure => simp [intOf]; omega
  · have HB := Lib.hid (rc_bad (rc_no hg))
    have HW := Lib.hid hW
    clear hg hW
    go_wp2
    go_ret3
    exact ⟨_, tup3 HB.out.2.1 HB.out.1, by rw [HB.out.2.2]; exact own_nil _ _, Since.after Hb0.out HW.out⟩
end Go.Proofs.YtlfehdikgbgloaaGreat
