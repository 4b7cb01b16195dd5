import Derived.Test.YtlfehdikgbgloaaGreatStab9
namespace Go.Proofs.YtlfehdikgbgloaaGreat
open Go.RowKit
theorem tog_end {n : Net} {r : Int} {cur : List Int} (h : (enB n r cur).length = 0) : ∀ (f : Nat) (k : Int), togB n r f cur k = (cur, k)
  | 0, _ => rfl
  | f + 1, k => by unfold togB; rw [if_pos h]
theorem tog_succ {n : Net} {r : Int} {cur : List Int} (h : ¬ (enB n r cur).length = 0) {f : Nat} {k : Int} : togB n r (f + 1) cur k = togB n r f (moveB n r cur (enB n r cur)) (k + 1) := by
  rw [togB, if_neg h]
theorem tog_len {n : Net} {r : Int} : ∀ (f : Nat) (cur : List Int) (k : Int), (togB n r f cur k).1.length = cur.length
  | 0, _, _ => rfl
  | f + 1, cur, k => by
    unfold togB
    split
    · rfl
    · rw [tog_len f]; unfold moveB; rw [put_len]
theorem move_ok {n : Net} {r : Int} {cur : List Int} (h : SitP n r cur) : SitP n r (moveB n r cur (enB n r cur)) := moveB_ok h _ _ h (fun _ hv => enB_mem hv)
theorem cur40 {n : Net} {r : Int} {cur : List Int} (h : SitP n r cur) : cur.length ≤ 40 := by have := netOk_len h.net; have := h.len; omega
def rtOk (n : Net) (r : Int) (ls : List Int) (most : Int) : Bool := sitB n r ls && inB 0 2000 most
def fnExactRunTogether_r2 (n : Net) (r : Int) (ls : List Int) (most : Int) : Bool := rtOk n r ls most
def fnExactRunTogether_r1 (n : Net) (r : Int) (ls : List Int) (most : Int) : Int := if rtOk n r ls most then (togB n r most.toNat ls 0).2 else 0
def fnExactRunTogether_d (n : Net) (r : Int) (ls : List Int) (most : Int) : List Int := if rtOk n r ls most then (togB n r most.toNat ls 0).1 else []
theorem fnExactRunTogether_dl (n : Net) (r : Int) (ls : List Int) (most : Int) (_ : szNet n ≤ 1048576) (hb : ls.length ≤ 1048576) : (fnExactRunTogether_d n r ls most).length ≤ 4611686018427387904 := by
  unfold fnExactRunTogether_d
  split
  · rw [tog_len]; omega
  · simp
theorem tup3 {u : Value} {a b : Int} {c d : Bool} (h1 : a = b) (h2 : c = d) : Ending.returned (.tuple #[u, .int .i64 a, .bool c]) = .returned (.tuple #[u, .int .i64 b, .bool d]) := by rw [h1, h2]
theorem ssMost_any (m : Int) (w : World) : Calls Tryz.prog 68 #[.int .i64 m] w fun e w' => e = .returned (.bool (inB 0 2000 m)) ∧ w = w' := by
  go_enter Tryz.func68, Tryz.ntmps68
  go_wp2_with (go_at_call 50; refine (l1In_b _ _ _ _).mono ?_; rintro e w' ⟨rfl, rfl⟩)
  go_ret
  exact ⟨rfl, rfl⟩
theorem rt_no {n : Net} {r : Int} {ls : List Int} {m : Int} (h : (!sitB n r ls || !inB 0 2000 m) = true) : rtOk n r ls m = false := by
  unfold rtOk
  revert h
  cases sitB n r ls <;> cases inB 0 2000 m <;> simp
set_option maxRecDepth 100000 in
set_option maxHeartbeats 1600000 in
theorem fnExactRunTogether_spec (ve vi vn : Value) (n : Net) (r : Int) (vl : Value) (ls : List Int) (most : Int) (w : World) (h : NetIn w ve vi vn n) (_ : -9223372036854775808 ≤ r ∧ r ≤ 9223372036854775807) (hl : IntS w vl ls) (_ : -9223372036854775808 ≤ most ∧ most ≤ 9223372036854775807) (hsz : szNet n ≤ 1048576) (hbig : ls.length ≤ 1048576) :
    Calls Tryz.prog 26 #[.agg #[ve, vi, vn], .int .i64 r, vl, .int .i64 most] w fun e w' => ∃ u, e = .returned (.tuple #[u, .int .i64 (fnExactRunTogether_r1 n r ls most), .bool (fnExactRunTogether_r2 n r ls most)]) ∧ Own w' w.heap.size u (fnExactRunTogether_d n r ls most) ∧ Below w.heap.size w w' := by
  obtain ⟨w0, hw0⟩ : ∃ w0, w0 = (w).alloc (.cells #[ve, vi, vn] 31) := ⟨_, rfl⟩
  have hb0 : Below w.heap.size w w0 := by rw [hw0]; exact ((Below.refl _ _).alloc (by simp) _)
  have H := Lib.hid (h.keep hb0)
  obtain ⟨h1, h2, h3⟩ := h.keep hb0
  obtain ⟨A, c, rfl, hlc, hm, hA⟩ := h1
  obtain ⟨A2, c2, rfl, _, hm2, _⟩ := h2
  obtain ⟨A3, c3, rfl, _, hm3, _⟩ := h3
  unfold maxLen at hm hm2 hm3
  have p00 : ∀ W, Since w0 W → W.cell? ⟨w.heap.size, 0, none⟩ = some (.slice A n.ends.length c) := have_cell (by rw [hw0]; simp)
  have p01 : ∀ W, Since w0 W → W.cell? ⟨w.heap.size, 1, none⟩ = some (.slice A2 n.ids.length c2) := have_cell (by rw [hw0]; simp)
  have p02 : ∀ W, Since w0 W → W.cell? ⟨w.heap.size, 2, none⟩ = some (.slice A3 n.inputs.length c3) := have_cell (by rw [hw0]; simp)
  have Hb0 := Lib.hid hb0
  have Hw0 := Lib.hid hw0
  have HA := Lib.hid hA
  clear hA h
  clear hb0 hw0
  have HL := Lib.hid (hl.keep Hb0.out)
  obtain ⟨AL, cL, rfl, hlL, hmL, _⟩ := hl
  unfold maxLen at hmL
  go_enter Tryz.func26, Tryz.ntmps26
  go_upto_region 1 with (fail)
  rw [← Hw0.out]
  refine wp_region_flow0 10 (Since w0) (since_refl _) ?_
  simp only [List.take_succ_cons, List.take_zero, List.drop_succ_cons, List.drop_zero]
  refine flow_val (v := ?_) rfl ?_ ?_; rotate_left; (intro W hW; go_simp; with_reducible rfl)
  simp only [Act.put, List.setIfInBounds_toArray, List.set_cons_succ, List.set_cons_zero]
  refine flow_val (v := ?_) rfl ?_ ?_; rotate_left; (intro W hW; go_simp; with_reducible rfl)
  simp only [Act.put, List.setIfInBounds_toArray, List.set_cons_succ, List.set_cons_zero]
  refine flow_val (v := ?_) rfl ?_ ?_; rotate_left; (intro W hW; go_simp; with_reducible rfl)
  simp only [Act.put, List.setIfInBounds_toArray, List.set_cons_succ, List.set_cons_zero]
  refine flow_op ?_ rfl ?_ ?_; rotate_left; (intro W hW; unfold Gives; go_simp; (with_reducible refine (ssStates_any _ _ _ _ n r ls W (H.out.keep hW.below) (HL.out.keep hW.below) hsz).mono ?_); rintro e W' ⟨rfl, hb3⟩; first | (refine ⟨?_, Since.trans hW hb3⟩; with_reducible rfl) | (subst hb3; refine ⟨?_, hW⟩; with_reducible rfl))
  simp only [Act.put, List.setIfInBounds_toArray, List.set_cons_succ, List.set_cons_zero]
  refine flow_val (v := ?_) rfl ?_ ?_; rotate_left; (intro W hW; go_simp; with_reducible rfl)
  simp only [Act.put, List.setIfInBounds_toArray, List.set_cons_succ, List.set_cons_zero]
  refine flow_val (v := ?_) rfl ?_ ?_; rotate_left; (intro W hW; go_simp; with_reducible rfl)
  simp only [Act.put, List.setIfInBounds_toArray, List.set_cons_succ, List.set_cons_zero]
  refine flow_gval (v := ?_) rfl rfl ?_ ?_; rotate_left; (intro hb W hW; go_simp; with_reducible rfl)
  simp only [Act.put, List.setIfInBounds_toArray, List.set_cons_succ, List.set_cons_zero]
  refine flow_gop (v := ?_) rfl rfl ?_ ?_; rotate_left; (intro hb W hW; unfold Gives; go_simp; (with_reducible refine (ssMost_any _ W).mono ?_); rintro e W' ⟨rfl, hb3⟩; first | (refine ⟨?_, Since.trans hW hb3⟩; with_reducible rfl) | (subst hb3; refine ⟨?_, hW⟩; with_reducible rfl))
  simp only [Act.put, List.setIfInBounds_toArray, List.set_cons_succ, List.set_cons_zero]
  refine flow_gval (v := ?_) rfl rfl ?_ ?_; rotate_left; (intro hb W hW; go_simp; with_reducible rfl)
  simp only [Act.put, List.setIfInBounds_toArray, List.set_cons_succ, List.set_cons_zero]
  first | refine flow_or rfl rfl ?_ | (refine flow_val (v := ?_) rfl ?_ ?_; rotate_left; (intro W hW; go_simp; with_reducible rfl))
  simp only [Act.put, List.setIfInBounds_toArray, List.set_cons_succ, List.set_cons_zero]
  intro W hW
  cases hg : (!sitB n r ls || !inB 0 2000 most)
  · have hg' := hg
    simp only [Bool.or_eq_false_iff, Bool.not_eq_false'] at hg'
    obtain ⟨g1, g2⟩ := hg'
    have hs := sitP_of g1
    have hmo := inB_iff.1 g2
    obtain ⟨mo, rfl⟩ := Int.eq_ofNat_of_zero_le hmo.1
    have hmo2 : mo ≤ 2000 := by omega
    have hok : rtOk n r ls mo = true := by unfold rtOk; rw [g1, g2]; rfl
    obtain ⟨R, hR⟩ : ∃ R, R = togB n r mo ls 0 := ⟨_, rfl⟩
    have Hr2 : Hid (true = fnExactRunTogether_r2 n r ls mo) := hok.symm
    have Hr1 : Hid (R.2 = fnExactRunTogether_r1 n r ls mo) := by show _ = _; unfold fnExactRunTogether_r1; rw [hok, if_pos rfl, Int.toNat_natCast, ← hR]
    have Hd : Hid (fnExactRunTogether_d n r ls mo = R.1) := by show _ = _; unfold fnExactRunTogether_d; rw [hok, if_pos rfl, Int.toNat_natCast, ← hR]
    have HR := Lib.hid hR
    have Hs := Lib.hid hs
    have hl40 := cur40 hs
    have hl0 : 0 < ls.length := by have := hs.len; have := netOk_len hs.net; omega
    have HW := Lib.hid hW
    clear hg g1 g2 hs hmo hok hR
    go_wp2_with fail
    refine (l1Own_any _ ls W (HL.out.keep HW.out.below) (by omega) (by omega)).mono ?_
    rintro e w1 ⟨u1, rfl, ho1, hb1⟩
    have hs1 : Since w0 w1 := HW.out.trans hb1
    have Ho1 := Lib.hid (ho1.mono (Since.below HW.out).size)
    clear ho1 hb1 hW
    go_wp2_with fail
    refine (ssEnabled_any _ _ _ _ n r ls w1 (H.out.keep hs1.below) Ho1.out.ints Hs.out).mono ?_
    rintro e w2 ⟨u2, rfl, ho2, hb2⟩
    have hs2 : Since w0 w2 := hs1.trans hb2
    have Ho2 := Lib.hid (Ho1.out.keep hb2)
    have HI2 := Lib.hid ho2.ints
    have Hs2 := Lib.hid hs2
    clear ho2 hb2 hs1 hs2
    go_wp2
    go_loopw [11, 12, 13] (fun u c e wr => ∃ (k : Nat) (cur : List Int), k ≤ mo ∧ c = .int .i64 k ∧ Own wr w0.heap.size u cur ∧ IntS wr e (enB n r cur) ∧ SitP n r cur ∧ togB n r (mo - k) cur k = R ∧ Since w0 wr) (fun _ c _ _ => mo - (intOf c).toNat)
    case atStart => exact ⟨0, ls, Nat.zero_le _, rfl, Ho2.out, HI2.out, Hs.out, by rw [HR.out, Nat.sub_zero]; rfl, Hs2.out⟩
    case round =>
      obtain ⟨k, cur, hk, rfl, ho, hi, hsc, hrr, hsr⟩ := hrel
      have Hsc := Lib.hid hsc
      have Hrr := Lib.hid hrr
      have Ho := Lib.hid ho
      obtain ⟨es, hes⟩ : ∃ es, es = enB n r cur := ⟨_, rfl⟩
      rw [← hes] at hi
      have HI := Lib.hid hi
      have hel : es.length ≤ 40 := by rw [hes]; have := enB_le n r cur; have := cur40 hsc; omega
      have Hes := Lib.hid hes
      obtain ⟨Bu, du, rfl, hld, hmd, _⟩ := hi
      unfold maxLen at hmd
      clear hsc hrr ho hes
      go_upto_region 5 with (fail)
      refine wp_region_flow0 8 (Since wr) (since_refl _) ?_
      simp only [List.take_succ_cons, List.take_zero, List.drop_succ_cons, List.drop_zero]
      refine flow_val (v := ?_) rfl ?_ ?_; rotate_left; (intro W hW; go_simp; with_reducible rfl)
      simp only [Act.put, List.setIfInBounds_toArray, List.set_cons_succ, List.set_cons_zero]
      refine flow_val (v := ?_) rfl ?_ ?_; rotate_left; (intro W hW; go_simp; with_reducible rfl)
      simp only [Act.put, List.setIfInBounds_toArray, List.set_cons_succ, List.set_cons_zero]
      refine flow_val (v := ?_) rfl ?_ ?_; rotate_left; (intro W hW; go_simp; with_reducible rfl)
      simp only [Act.put, List.setIfInBounds_toArray, List.set_cons_succ, List.set_cons_zero]
      refine flow_val (v := ?_) rfl ?_ ?_; rotate_left; (intro W hW; go_simp; with_reducible rfl)
      simp only [Act.put, List.setIfInBounds_toArray, List.set_cons_succ, List.set_cons_zero]
      refine flow_gval (v := ?_) rfl rfl ?_ ?_; rotate_left; (intro hb W hW; go_simp; with_reducible rfl)
      simp only [Act.put, List.setIfInBounds_toArray, List.set_cons_succ, List.set_cons_zero]
      refine flow_gval (v := ?_) rfl rfl ?_ ?_; rotate_left; (intro hb W hW; go_simp; with_reducible rfl)
      simp only [Act.put, List.setIfInBounds_toArray, List.set_cons_succ, List.set_cons_zero]
      refine flow_gval (v := ?_) rfl rfl ?_ ?_; rotate_left; (intro hb W hW; go_simp; with_reducible rfl)
      simp only [Act.put, List.setIfInBounds_toArray, List.set_cons_succ, List.set_cons_zero]
      first | refine flow_and rfl rfl ?_ | (refine flow_val (v := ?_) rfl ?_ ?_; rotate_left; (intro W hW; go_simp; with_reducible rfl))
      simp only [Act.put, List.setIfInBounds_toArray, List.set_cons_succ, List.set_cons_zero]
      intro W5 hW5
      have hs5 : Since w0 W5 := hsr.trans hW5
      have Ho5 := Lib.hid (Ho.out.keep hW5.below)
      have HI5 := Lib.hid (HI.out.keep hW5.below)
      clear hW5 hsr
      cases hb : (decide (0 < es.length) && decide (k < mo))
      · have HRe : Hid (R = (cur, (k : Int))) := by
          show _ = _
          rw [← Hrr.out]
          rw [Bool.and_eq_false_iff, decide_eq_false_iff_not, decide_eq_false_iff_not] at hb
          by_cases h0 : es.length = 0
          · exact tog_end (by rw [← Hes.out]; exact h0) _ _
          · have : mo - k = 0 := by omega
            rw [this]; rfl
        clear hb
        go_wp2
        go_ret3
        exact ⟨_, tup3 (by rw [← Hr1.out, HRe.out]) Hr2.out, by rw [Hd.out, HRe.out]; exact Ho5.out.mono Hb0.out.size, Since.after Hb0.out hs5⟩
      · rw [Bool.and_eq_true, decide_eq_true_eq, decide_eq_true_eq] at hb
        have h0 : ¬ es.length = 0 := by omega
        have hkm2 : k < mo := by omega
        have Hrr2 : Hid (togB n r (mo - (k + 1)) (moveB n r cur es) ((k : Int) + 1) = R) := by
          show _ = _
          rw [← Hrr.out, show mo - k = (mo - (k + 1)) + 1 by omega, tog_succ (by rw [← Hes.out]; exact h0), Hes.out]
        have Hmv : Hid (SitP n r (moveB n r cur es)) := by show SitP _ _ _; rw [Hes.out]; exact move_ok Hsc.out
        have m3 : IntKind.i64.wrap ((k : Int) + 1) = (k : Int) + 1 := wr64 _ (by omega) (by omega)
        have Hin : Hid (∀ v ∈ es, 0 ≤ v ∧ v < cur.length) := fun v hv => enB_mem (by rw [← Hes.out]; exact hv)
        clear h0 hb
        go_wp2_with fail
        refine (ssMove_any _ _ _ _ _ n r cur es W5 (H.out.keep hs5.below) Ho5.out.ints HI5.out Hsc.out (by omega) Hin.out).mono ?_
        rintro e w3 ⟨u3, rfl, ho3, hb3⟩
        have hs3 : Since w0 w3 := hs5.trans hb3
        have Ho3 := Lib.hid (ho3.mono (Since.below hs5).size)
        clear ho3 hb3 hs5
        go_wp2_with fail
        refine (ssEnabled_any _ _ _ _ n r (moveB n r cur es) w3 (H.out.keep hs3.below) Ho3.out.ints Hmv.out).mono ?_
        rintro e w4 ⟨u4, rfl, ho4, hb4⟩
        have Hs4 := Lib.hid (hs3.trans hb4)
        have Ho4 := Lib.hid (Ho3.out.keep hb4)
        have HI4 := Lib.hid ho4.ints
        clear ho4 hb4 hs3
        go_wp2
        go_roundw
        case rel => exact ⟨k + 1, moveB n r cur es, by omega, by go_num, Ho4.out, HI4.out, Hmv.out, Hrr2.out, Hs4.out⟩
        case measure => simp [intOf]; omega
  · have hr := rt_no hg
    have Hr2 : Hid (false = fnExactRunTogether_r2 n r ls most) := hr.symm
    have Hr1 : Hid (0 = fnExactRunTogether_r1 n r ls most) := by show _ = _; unfold fnExactRunTogether_r1; rw [hr]; rfl
    have Hd : Hid (fnExactRunTogether_d n r ls most = []) := by show _ = _; unfold fnExactRunTogether_d; rw [hr]; rfl
    have HW := Lib.hid hW
    clear hg hW hr
    go_wp2
    go_ret3
    exact ⟨_, tup3 Hr1.out Hr2.out, by rw [Hd.out]; exact own_nil _ _, Since.after Hb0.out HW.out⟩
set_option maxRecDepth 100000 in
set_option maxHeartbeats 1600000 in
theorem fnExactRunTogether_impl (ve vi vn : Value) (n : Net) (r : Int) (vl : Value) (ls : List Int) (most : Int) (w : World) (h : NetIn w ve vi vn n) (_ : -9223372036854775808 ≤ r ∧ r ≤ 9223372036854775807) (hl : IntS w vl ls) (_ : -9223372036854775808 ≤ most ∧ most ≤ 9223372036854775807) (hsz : szNet n ≤ 1048576) (hbig : ls.length ≤ 1048576) :
    Calls Tryz.prog 27 #[.agg #[ve, vi, vn], .int .i64 r, vl, .int .i64 most] w fun e w' => ∃ u, e = .returned (.tuple #[u, .int .i64 (fnExactRunTogether_r1 n r ls most), .bool (fnExactRunTogether_r2 n r ls most)]) ∧ Own w' w.heap.size u (fnExactRunTogether_d n r ls most) ∧ Below w.heap.size w w' := by
  obtain ⟨w0, hw0⟩ : ∃ w0, w0 = (w).alloc (.cells #[ve, vi, vn] 31) := ⟨_, rfl⟩
  have hb0 : Below w.heap.size w w0 := by rw [hw0]; exact ((Below.refl _ _).alloc (by simp) _)
  have H := Lib.hid (h.keep hb0)
  obtain ⟨h1, h2, h3⟩ := h.keep hb0
  obtain ⟨A, c, rfl, hlc, hm, hA⟩ := h1
  obtain ⟨A2, c2, rfl, _, hm2, _⟩ := h2
  obtain ⟨A3, c3, rfl, _, hm3, _⟩ := h3
  unfold maxLen at hm hm2 hm3
  have p00 : ∀ W, Since w0 W → W.cell? ⟨w.heap.size, 0, none⟩ = some (.slice A n.ends.length c) := have_cell (by rw [hw0]; simp)
  have p01 : ∀ W, Since w0 W → W.cell? ⟨w.heap.size, 1, none⟩ = some (.slice A2 n.ids.length c2) := have_cell (by rw [hw0]; simp)
  have p02 : ∀ W, Since w0 W → W.cell? ⟨w.heap.size, 2, none⟩ = some (.slice A3 n.inputs.length c3) := have_cell (by rw [hw0]; simp)
  have Hb0 := Lib.hid hb0
  have Hw0 := Lib.hid hw0
  have HA := Lib.hid hA
  clear hA h
  clear hb0 hw0
  have HL := Lib.hid (hl.keep Hb0.out)
  obtain ⟨AL, cL, rfl, hlL, hmL, _⟩ := hl
  unfold maxLen at hmL
  go_enter Tryz.func27, Tryz.ntmps27
  go_upto_region 1 with (fail)
  rw [← Hw0.out]
  refine wp_region_flow0 10 (Since w0) (since_refl _) ?_
  simp only [List.take_succ_cons, List.take_zero, List.drop_succ_cons, List.drop_zero]
  refine flow_val (v := ?_) rfl ?_ ?_; rotate_left; (intro W hW; go_simp; with_reducible rfl)
  simp only [Act.put, List.setIfInBounds_toArray, List.set_cons_succ, List.set_cons_zero]
  refine flow_val (v := ?_) rfl ?_ ?_; rotate_left; (intro W hW; go_simp; with_reducible rfl)
  simp only [Act.put, List.setIfInBounds_toArray, List.set_cons_succ, List.set_cons_zero]
  refine flow_val (v := ?_) rfl ?_ ?_; rotate_left; (intro W hW; go_simp; with_reducible rfl)
  simp only [Act.put, List.setIfInBounds_toArray, List.set_cons_succ, List.set_cons_zero]
  refine flow_op ?_ rfl ?_ ?_; rotate_left; (intro W hW; unfold Gives; go_simp; (with_reducible refine (situationOk_any _ _ _ _ n r ls W (H.out.keep hW.below) (HL.out.keep hW.below) hsz).mono ?_); rintro e W' ⟨rfl, hb3⟩; first | (refine ⟨?_, Since.trans hW hb3⟩; with_reducible rfl) | (subst hb3; refine ⟨?_, hW⟩; with_reducible rfl))
  simp only [Act.put, List.setIfInBounds_toArray, List.set_cons_succ, List.set_cons_zero]
  refine flow_val (v := ?_) rfl ?_ ?_; rotate_left; (intro W hW; go_simp; with_reducible rfl)
  simp only [Act.put, List.setIfInBounds_toArray, List.set_cons_succ, List.set_cons_zero]
  refine flow_val (v := ?_) rfl ?_ ?_; rotate_left; (intro W hW; go_simp; with_reducible rfl)
  simp only [Act.put, List.setIfInBounds_toArray, List.set_cons_succ, List.set_cons_zero]
  refine flow_gval (v := ?_) rfl rfl ?_ ?_; rotate_left; (intro hb W hW; go_simp; with_reducible rfl)
  simp only [Act.put, List.setIfInBounds_toArray, List.set_cons_succ, List.set_cons_zero]
  refine flow_gop (v := ?_) rfl rfl ?_ ?_; rotate_left; (intro hb W hW; unfold Gives; go_simp; (with_reducible refine (within_b _ _ _ W).mono ?_); rintro e W' ⟨rfl, hb3⟩; first | (refine ⟨?_, Since.trans hW hb3⟩; with_reducible rfl) | (subst hb3; refine ⟨?_, hW⟩; with_reducible rfl))
  simp only [Act.put, List.setIfInBounds_toArray, List.set_cons_succ, List.set_cons_zero]
  refine flow_gval (v := ?_) rfl rfl ?_ ?_; rotate_left; (intro hb W hW; go_simp; with_reducible rfl)
  simp only [Act.put, List.setIfInBounds_toArray, List.set_cons_succ, List.set_cons_zero]
  first | refine flow_or rfl rfl ?_ | (refine flow_val (v := ?_) rfl ?_ ?_; rotate_left; (intro W hW; go_simp; with_reducible rfl))
  simp only [Act.put, List.setIfInBounds_toArray, List.set_cons_succ, List.set_cons_zero]
  intro W hW
  cases hg : (!sitB n r ls || !inB 0 2000 most)
  · have hg' := hg
    simp only [Bool.or_eq_false_iff, Bool.not_eq_false'] at hg'
    obtain ⟨g1, g2⟩ := hg'
    have hs := sitP_of g1
    have hmo := inB_iff.1 g2
    obtain ⟨mo, rfl⟩ := Int.eq_ofNat_of_zero_le hmo.1
    have hmo2 : mo ≤ 2000 := by omega
    have hok : rtOk n r ls mo = true := by unfold rtOk; rw [g1, g2]; rfl
    obtain ⟨R, hR⟩ : ∃ R, R = togB n r mo ls 0 := ⟨_, rfl⟩
    have Hr2 : Hid (true = fnExactRunTogether_r2 n r ls mo) := hok.symm
    have Hr1 : Hid (R.2 = fnExactRunTogether_r1 n r ls mo) := by show _ = _; unfold fnExactRunTogether_r1; rw [hok, if_pos rfl, Int.toNat_natCast, ← hR]
    have Hd : Hid (fnExactRunTogether_d n r ls mo = R.1) := by show _ = _; unfold fnExactRunTogether_d; rw [hok, if_pos rfl, Int.toNat_natCast, ← hR]
    have HR := Lib.hid hR
    have Hs := Lib.hid hs
    have hl40 := cur40 hs
    have hl0 : 0 < ls.length := by have := hs.len; have := netOk_len hs.net; omega
    have HW := Lib.hid hW
    clear hg g1 g2 hs hmo hok hR
    go_wp2_with fail
    refine (clone_any _ ls W (HL.out.keep HW.out.below) (by omega)).mono ?_
    rintro e w1 ⟨u1, rfl, ho1, hb1⟩
    have Hs1 := Lib.hid (show Since w0 w1 from HW.out.trans hb1)
    have Ho1 := Lib.hid (ho1.mono (Since.below HW.out).size)
    clear ho1 hb1 hW
    go_wp2
    go_loopw [11, 27] (fun u c wr => ∃ (k : Nat) (cur : List Int), k ≤ mo ∧ c = .int .i64 k ∧ Own wr w0.heap.size u cur ∧ SitP n r cur ∧ togB n r (mo - k) cur k = R ∧ Since w0 wr) (fun _ c _ => mo - (intOf c).toNat)
    case atStart => exact ⟨0, ls, Nat.zero_le _, rfl, Ho1.out, Hs.out, by rw [HR.out, Nat.sub_zero]; rfl, Hs1.out⟩
    case round =>
      obtain ⟨k, cur, hk, rfl, ho, hsc, hrr, hsr⟩ := hrel
      have Hsc := Lib.hid hsc
      have Hrr := Lib.hid hrr
      have Ho := Lib.hid ho
      clear hsc hrr ho
      by_cases hkm : k < mo
      · obtain ⟨es, hes⟩ : ∃ es, es = enB n r cur := ⟨_, rfl⟩
        have hel : es.length ≤ 40 := by rw [hes]; have := enB_le n r cur; have := cur40 Hsc.out; omega
        have Hes := Lib.hid hes
        have hcall := enabledNodes_any _ _ _ _ n r cur wr (H.out.keep hsr.below) Ho.out.ints Hsc.out
        rw [← hes] at hcall
        have Hcall := Lib.hid hcall
        clear hes hcall
        go_wp2_with fail
        refine Hcall.out.mono ?_
        rintro e w2 ⟨u2, rfl, ho2, hb2⟩
        have hs2 : Since w0 w2 := hsr.trans hb2
        have Ho2 := Lib.hid (Ho.out.keep hb2)
        have HI := Lib.hid ho2.ints
        obtain ⟨Bu, du, rfl, hld, hmd, _⟩ := id ho2.ints
        unfold maxLen at hmd
        clear ho2 hb2 hsr
        by_cases h0 : es.length = 0
        · have hgt : ((es.length : Int) == 0) = true := by simp; exact List.length_eq_zero_iff.1 h0
          have HRe : Hid (R = (cur, (k : Int))) := by show _ = _; rw [← Hrr.out]; exact tog_end (by rw [← Hes.out]; exact h0) _ _
          clear h0
          go_wp2
          go_ret3
          exact ⟨_, tup3 (by rw [← Hr1.out, HRe.out]) Hr2.out, by rw [Hd.out, HRe.out]; exact Ho2.out.mono Hb0.out.size, Since.after Hb0.out hs2⟩
        · have hgt : ((es.length : Int) == 0) = false := beq_eq_false_iff_ne.2 (by omega)
          have Hrr2 : Hid (togB n r (mo - (k + 1)) (moveB n r cur es) ((k : Int) + 1) = R) := by
            show _ = _
            rw [← Hrr.out, show mo - k = (mo - (k + 1)) + 1 by omega, tog_succ (by rw [← Hes.out]; exact h0), Hes.out]
          have Hmv : Hid (SitP n r (moveB n r cur es)) := by show SitP _ _ _; rw [Hes.out]; exact move_ok Hsc.out
          have m3 : IntKind.i64.wrap ((k : Int) + 1) = (k : Int) + 1 := wr64 _ (by omega) (by omega)
          have Hin : Hid (∀ v ∈ es, 0 ≤ v ∧ v < cur.length) := fun v hv => enB_mem (by rw [← Hes.out]; exact hv)
          clear h0
          go_wp2_with fail
          refine (moveSet_any _ _ _ _ _ n r cur es w2 (H.out.keep hs2.below) Ho2.out.ints HI.out Hsc.out (by omega) Hin.out).mono ?_
          rintro e w3 ⟨u3, rfl, ho3, hb3⟩
          have Hs3 := Lib.hid (hs2.trans hb3)
          have Ho3 := Lib.hid (ho3.mono (Since.below hs2).size)
          clear ho3 hb3 hs2
          go_wp2
          go_roundw
          case rel => exact ⟨k + 1, moveB n r cur es, by omega, by go_num, Ho3.out, Hmv.out, Hrr2.out, Hs3.out⟩
          case measure => simp [intOf]; omega
      · obtain rfl : k = mo := by omega
        have HRe : Hid (R = (cur, (k : Int))) := by show _ = _; rw [← Hrr.out, Nat.sub_self]; rfl
        go_wp2
        go_ret3
        exact ⟨_, tup3 (by rw [← Hr1.out, HRe.out]) Hr2.out, by rw [Hd.out, HRe.out]; exact Ho.out.mono Hb0.out.size, Since.after Hb0.out hsr⟩
  · have hr := rt_no hg
    have Hr2 : Hid (false = fnExactRunTogether_r2 n r ls most) := hr.symm
    have Hr1 : Hid (0 = fnExactRunTogether_r1 n r ls most) := by show _ = _; unfold fnExactRunTogether_r1; rw [hr]; rfl
    have Hd : Hid (fnExactRunTogether_d n r ls most = []) := by show _ = _; unfold fnExactRunTogether_d; rw [hr]; rfl
    have HW := Lib.hid hW
    clear hg hW hr
    go_wp2
    go_ret3
    exact ⟨_, tup3 Hr1.out Hr2.out, by rw [Hd.out]; exact own_nil _ _, Since.after Hb0.out HW.out⟩
end Go.Proofs.YtlfehdikgbgloaaGreat
