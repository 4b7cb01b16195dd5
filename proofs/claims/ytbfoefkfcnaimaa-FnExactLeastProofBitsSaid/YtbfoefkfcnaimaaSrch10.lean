import Derived.Test.YtbfoefkfcnaimaaSrch9
namespace Go.Proofs.Ytbfoefkfcnaimaa
open Go.RowKit
def lpb (st : Nat → Int) : Nat → Nat → Int × Bool
  | 0, _ => (0, false)
  | f + 1, b => if st b = 1 then ((b : Int), true) else if st b = 3 then (0, false) else lpb st f (b + 1)
def lpbSt (n : Net) (s : Int) (b : Nat) : Int := (srchR n s 0 (2 ^ b - 1) 200000).2.1
def lpbOk (n : Net) (s bits : Int) : Bool := netOk n && inB 1 5 s && inB 0 10 bits
def lpbR (n : Net) (s bits : Int) : Int × Bool := if lpbOk n s bits then lpb (lpbSt n s) (bits.toNat + 1) 0 else (0, false)
def fnExactLeastProofBits_r0 (n : Net) (s bits : Int) : Int := (lpbR n s bits).1
def fnExactLeastProofBits_r1 (n : Net) (s bits : Int) : Bool := (lpbR n s bits).2
theorem pow_bd {k : Nat} (h : k ≤ 10) : 1 ≤ (2 : Int) ^ k ∧ (2 : Int) ^ k ≤ 1024 := by
  have h1 : 1 ≤ 2 ^ k := Nat.one_le_two_pow
  have h2 : 2 ^ k ≤ 2 ^ 10 := Nat.pow_le_pow_right (by omega) h
  have e : ((2 ^ k : Nat) : Int) = (2 : Int) ^ k := by simp
  rw [← e]
  omega
theorem tupR {R : Int × Bool} {a : Int} {c : Bool} (h : R = (a, c)) : Ending.returned (.tuple #[.int .i64 a, .bool c]) = .returned (.tuple #[.int .i64 R.1, .bool R.2]) := by rw [h]
set_option maxRecDepth 100000 in
set_option maxHeartbeats 8000000 in
theorem fnExactLeastProofBits_spec (ve vi vn : Value) (n : Net) (s bits : Int) (w : World) (h : NetIn w ve vi vn n) (_ : -9223372036854775808 ≤ s ∧ s ≤ 9223372036854775807) (_ : -9223372036854775808 ≤ bits ∧ bits ≤ 9223372036854775807) (hsz : szNet n ≤ 1048576) :
    Calls Try.prog 30 #[.agg #[ve, vi, vn], .int .i64 s, .int .i64 bits] w fun e w' => e = .returned (.tuple #[.int .i64 (fnExactLeastProofBits_r0 n s bits), .bool (fnExactLeastProofBits_r1 n s bits)]) ∧ Below w.heap.size w w' := by
  obtain ⟨w0, hw0⟩ : ∃ w0, w0 = (w).alloc (.cells #[ve, vi, vn] 31) := ⟨_, rfl⟩
  have hb0 : Below w.heap.size w w0 := by rw [hw0]; exact ((Below.refl _ _).alloc (by simp) _)
  have H := Lib.hid (h.keep hb0)
  obtain ⟨h1, h2, h3⟩ := h.keep hb0
  obtain ⟨A, c, rfl, hlc, hm, hA⟩ := h1
  obtain ⟨A2, c2, rfl, _, hm2, _⟩ := h2
  obtain ⟨A3, c3, rfl, _, hm3, _⟩ := h3
  unfold maxLen at hm hm2 hm3
  have p00 : ∀ W, Since w0 W → W.cell? ⟨w.heap.size, 0, none⟩ = some (.slice A n.ends.length c) := have_cell (by rw [hw0]; simp)
  have p01 : ∀ W, Since w0 W → W.cell? ⟨w.heap.size, 1, none⟩ = some (.slice A2 n.ids.length c2) := have_cell (by rw [hw0]; simp)
  have p02 : ∀ W, Since w0 W → W.cell? ⟨w.heap.size, 2, none⟩ = some (.slice A3 n.inputs.length c3) := have_cell (by rw [hw0]; simp)
  have Hb0 := Lib.hid hb0
  have Hw0 := Lib.hid hw0
  have HA := Lib.hid hA
  clear hA h
  clear hb0 hw0
  unfold fnExactLeastProofBits_r0 fnExactLeastProofBits_r1
  obtain ⟨R, hR⟩ : ∃ R, R = lpbR n s bits := ⟨_, rfl⟩
  rw [← hR]
  go_enter Try.func30, Try.ntmps30
  go_upto_region 1 with (fail)
  rw [← Hw0.out]
  refine wp_region_flow0 13 (Since w0) (since_refl _) ?_
  simp only [List.take_succ_cons, List.take_zero, List.drop_succ_cons, List.drop_zero]
  refine flow_val (v := ?_) rfl ?_ ?_; rotate_left; (intro W hW; go_simp; with_reducible rfl)
  simp only [Act.put, List.setIfInBounds_toArray, List.set_cons_succ, List.set_cons_zero]
  refine flow_op ?_ rfl ?_ ?_; rotate_left; (intro W hW; unfold Gives; go_simp; (with_reducible refine (neGood_any _ _ _ n W (H.out.keep hW.below)).mono ?_); rintro e W' ⟨rfl, hb3⟩; first | (refine ⟨?_, Since.trans hW hb3⟩; with_reducible rfl) | (subst hb3; refine ⟨?_, hW⟩; with_reducible rfl))
  simp only [Act.put, List.setIfInBounds_toArray, List.set_cons_succ, List.set_cons_zero]
  refine flow_val (v := ?_) rfl ?_ ?_; rotate_left; (intro W hW; go_simp; with_reducible rfl)
  simp only [Act.put, List.setIfInBounds_toArray, List.set_cons_succ, List.set_cons_zero]
  refine flow_val (v := ?_) rfl ?_ ?_; rotate_left; (intro W hW; go_simp; with_reducible rfl)
  simp only [Act.put, List.setIfInBounds_toArray, List.set_cons_succ, List.set_cons_zero]
  refine flow_gval (v := ?_) rfl rfl ?_ ?_; rotate_left; (intro hb W hW; go_simp; with_reducible rfl)
  simp only [Act.put, List.setIfInBounds_toArray, List.set_cons_succ, List.set_cons_zero]
  refine flow_gop (v := ?_) rfl rfl ?_ ?_; rotate_left; (intro hb W hW; unfold Gives; go_simp; (with_reducible refine (plScheme_b _ W).mono ?_); rintro e W' ⟨rfl, hb3⟩; first | (refine ⟨?_, Since.trans hW hb3⟩; with_reducible rfl) | (subst hb3; refine ⟨?_, hW⟩; with_reducible rfl))
  simp only [Act.put, List.setIfInBounds_toArray, List.set_cons_succ, List.set_cons_zero]
  refine flow_gval (v := ?_) rfl rfl ?_ ?_; rotate_left; (intro hb W hW; go_simp; with_reducible rfl)
  simp only [Act.put, List.setIfInBounds_toArray, List.set_cons_succ, List.set_cons_zero]
  first | refine flow_or rfl rfl ?_ | (refine flow_val (v := ?_) rfl ?_ ?_; rotate_left; (intro W hW; go_simp; with_reducible rfl))
  simp only [Act.put, List.setIfInBounds_toArray, List.set_cons_succ, List.set_cons_zero]
  refine flow_val (v := ?_) rfl ?_ ?_; rotate_left; (intro W hW; go_simp; with_reducible rfl)
  simp only [Act.put, List.setIfInBounds_toArray, List.set_cons_succ, List.set_cons_zero]
  refine flow_gval (v := ?_) rfl rfl ?_ ?_; rotate_left; (intro hb W hW; go_simp; with_reducible rfl)
  simp only [Act.put, List.setIfInBounds_toArray, List.set_cons_succ, List.set_cons_zero]
  refine flow_gop (v := ?_) rfl rfl ?_ ?_; rotate_left; (intro hb W hW; unfold Gives; go_simp; (with_reducible refine (l1In_b _ _ _ W).mono ?_); rintro e W' ⟨rfl, hb3⟩; first | (refine ⟨?_, Since.trans hW hb3⟩; with_reducible rfl) | (subst hb3; refine ⟨?_, hW⟩; with_reducible rfl))
  simp only [Act.put, List.setIfInBounds_toArray, List.set_cons_succ, List.set_cons_zero]
  refine flow_gval (v := ?_) rfl rfl ?_ ?_; rotate_left; (intro hb W hW; go_simp; with_reducible rfl)
  simp only [Act.put, List.setIfInBounds_toArray, List.set_cons_succ, List.set_cons_zero]
  first | refine flow_or rfl rfl ?_ | (refine flow_val (v := ?_) rfl ?_ ?_; rotate_left; (intro W hW; go_simp; with_reducible rfl))
  simp only [Act.put, List.setIfInBounds_toArray, List.set_cons_succ, List.set_cons_zero]
  intro W hW
  cases hg : (!netOk n || !inB 1 5 s || !inB 0 10 bits)
  · simp only [Bool.or_eq_false_iff, Bool.not_eq_false'] at hg
    have hok : lpbOk n s bits = true := by simp [lpbOk, hg.1.1, hg.1.2, hg.2]
    have hs15 := inB_iff.1 hg.1.2
    have hbt := inB_iff.1 hg.2
    have Hn := Lib.hid hg.1.1
    obtain ⟨bt, rfl⟩ := Int.eq_ofNat_of_zero_le hbt.1
    have HR : Hid (lpb (lpbSt n s) (bt + 1) 0 = R) := by show _ = _; rw [hR, lpbR, if_pos hok]; simp
    clear hg hok hR
    go_wp2
    go_loopw [8] (fun i wr => ∃ k : Nat, k ≤ bt + 1 ∧ i = .int .i64 k ∧ lpb (lpbSt n s) (bt + 1 - k) k = R ∧ Since w0 wr) (fun i _ => bt + 1 - (intOf i).toNat)
    case atStart => exact ⟨0, Nat.zero_le _, rfl, HR.out, hW⟩
    case round =>
      obtain ⟨k, hk, rfl, hRk, hs⟩ := hrel
      have HRk := Lib.hid hRk
      clear hW hRk
      by_cases hlt : k < bt + 1
      · have hk10 : k ≤ 10 := by omega
        obtain ⟨p, hp⟩ : ∃ p : Int, p = 2 ^ k := ⟨_, rfl⟩
        have hpb := pow_bd hk10
        have m1 : IntKind.i64.wrap (2 ^ k) = p := by rw [hp]; exact wr64 _ (by omega) (by omega)
        rw [← hp] at hpb
        have m2 : IntKind.i64.wrap (p - 1) = p - 1 := wr64 _ (by omega) (by omega)
        have m3 : IntKind.i64.wrap ((k : Int) + 1) = (k : Int) + 1 := wr64 _ (by omega) (by omega)
        have Hp := Lib.hid hp
        have q0 := lift_cell p00 hs
        have q1 := lift_cell p01 hs
        have q2 := lift_cell p02 hs
        have hk64 : (k : Int) ≤ 64 := by omega
        clear hp
        go_upto_region 6 with (fail)
        refine wp_region_flow 6 (Since wr) (by kernel_rfl) (by kernel_rfl) (by simp) (since_drew (since_refl _)) ?_
        simp only [List.take_succ_cons, List.take_zero, List.drop_succ_cons, List.drop_zero]
        refine flow_val (v := ?_) rfl ?_ ?_; rotate_left; (intro W hW; go_simp; with_reducible rfl)
        simp only [Act.put, List.setIfInBounds_toArray, List.set_cons_succ, List.set_cons_zero]
        refine flow_val (v := ?_) rfl ?_ ?_; rotate_left; (intro W hW; go_simp; with_reducible rfl)
        simp only [Act.put, List.setIfInBounds_toArray, List.set_cons_succ, List.set_cons_zero]
        refine flow_val (v := ?_) rfl ?_ ?_; rotate_left; (intro W hW; go_simp; with_reducible rfl)
        simp only [Act.put, List.setIfInBounds_toArray, List.set_cons_succ, List.set_cons_zero]
        refine flow_val (v := ?_) rfl ?_ ?_; rotate_left; (intro W hW; go_simp; with_reducible rfl)
        simp only [Act.put, List.setIfInBounds_toArray, List.set_cons_succ, List.set_cons_zero]
        refine flow_val (v := ?_) rfl ?_ ?_; rotate_left; (intro W hW; go_simp; with_reducible rfl)
        simp only [Act.put, List.setIfInBounds_toArray, List.set_cons_succ, List.set_cons_zero]
        refine flow_val (v := ?_) rfl ?_ ?_; rotate_left; (intro W hW; go_simp; with_reducible rfl)
        simp only [Act.put, List.setIfInBounds_toArray, List.set_cons_succ, List.set_cons_zero]
        intro Wb hWb
        have hsb := hs.after hWb
        obtain ⟨B, hB⟩ : ∃ B, B = Wb.heap.size := ⟨_, rfl⟩
        obtain ⟨w3, hw3⟩ : ∃ w3, w3 = Wb.alloc (.cells #[.slice A n.ends.length c, .slice A2 n.ids.length c2, .slice A3 n.inputs.length c3, .int .i64 s, .int .i64 0, .int .i64 (p - 1), .int .i64 200000, .int .i64 0, .slice none 0 0] 85) := ⟨_, rfl⟩
        have HA : Hid (AS w3 B (.slice A n.ends.length c) (.slice A2 n.ids.length c2) (.slice A3 n.inputs.length c3) s 0 (p - 1) 200000 0 (.slice none 0 0)) := by
          show (_ : Option _) = _
          rw [hw3, hB]
          show (Wb.heap.push _)[Wb.heap.size]? = _
          rw [Array.getElem?_push_size]
        have Hs3 : Hid (Since w0 w3) := by rw [hw3]; exact since_alloc _ hsb
        have HBw : Hid (w0.heap.size ≤ B) := by rw [hB]; exact (Since.below hsb).size
        have Hst : Hid (lpbSt n s k = (srchR n s 0 (p - 1) 200000).2.1) := by show _ = _; rw [Hp.out]; rfl
        obtain ⟨st, hst⟩ : ∃ st, st = (srchR n s 0 (p - 1) 200000).2.1 := ⟨_, rfl⟩
        have Hst2 := Lib.hid hst
        have Hw3 := Lib.hid hw3
        have HB := Lib.hid hB
        clear q0 q1 q2 hw3 hB hsb hWb hs hst m1
        go_upto_region 7 with (fail)
        rw [← Hw3.out, ← HB.out]
        go_wp2_with fail
        refine (sRun_any _ _ _ _ n s 0 (p - 1) 200000 B w3 w0 H.out Hs3.out HBw.out HA.out Hn.out (.inr ⟨hs15.1, hs15.2, by omega, by omega⟩) (by omega) (by omega)).mono ?_
        rw [← Hst2.out]
        rintro e w4 ⟨rfl, hs4, -⟩
        have Hs4 := Lib.hid hs4
        have HRn := HRk.out
        rw [show bt + 1 - k = (bt + 1 - (k + 1)) + 1 by omega, lpb, Hst.out, ← Hst2.out] at HRn
        have HRN := Lib.hid HRn
        clear hs4 HRn
        by_cases h1 : st = 1
        · have Hr : Hid (R = ((k : Int), true)) := by rw [← HRN.out, if_pos h1]; exact rfl
          have e1 : (st == 1) = true := by simpa using h1
          go_wp2
          go_ret2
          exact ⟨tupR Hr.out, Since.after Hb0.out Hs4.out⟩
        · have e1 : (st == 1) = false := by simpa using h1
          by_cases h3 : st = 3
          · have Hr : Hid (R = (0, false)) := by rw [← HRN.out, if_neg h1, if_pos h3]; exact rfl
            have e3 : (st == 3) = true := by simpa using h3
            clear h1
            go_wp2
            go_ret2
            exact ⟨tupR Hr.out, Since.after Hb0.out Hs4.out⟩
          · have e3 : (st == 3) = false := by simpa using h3
            have Hr : Hid (lpb (lpbSt n s) (bt + 1 - (k + 1)) (k + 1) = R) := by rw [← HRN.out, if_neg h1, if_neg h3]; exact rfl
            go_wp2
            go_roundw
            case rel => exact ⟨k + 1, by omega, by go_num, Hr.out, Hs4.out⟩
            case measure => simp [intOf]; omega
      · obtain rfl : k = bt + 1 := by omega
        have Hr : Hid (R = (0, false)) := by rw [← HRk.out, Nat.sub_self]; exact rfl
        have hnle : ¬ (((bt + 1 : Nat) : Int) ≤ (bt : Int)) := by omega
        go_wp2
        go_ret2
        exact ⟨tupR Hr.out, Since.after Hb0.out hs⟩
  · have hok : lpbOk n s bits = false := by
      unfold lpbOk
      revert hg
      cases netOk n <;> cases inB 1 5 s <;> cases inB 0 10 bits <;> simp
    have Hr : Hid (R = (0, false)) := by show _ = _; rw [hR, lpbR, hok]; simp
    have HW := Lib.hid hW
    clear hg hok hR hW
    go_wp2
    go_ret2
    exact ⟨tupR Hr.out, Since.after Hb0.out HW.out⟩
end Go.Proofs.Ytbfoefkfcnaimaa
