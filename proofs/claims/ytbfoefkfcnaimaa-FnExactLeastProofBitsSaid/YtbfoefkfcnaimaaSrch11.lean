import Derived.Test.YtbfoefkfcnaimaaSrch10
namespace Go.Proofs.Ytbfoefkfcnaimaa
open Go.RowKit
def tupAt (u : Value) (i : Nat) : Value := match u with | .tuple cs => cs.getD i undef | _ => undef
theorem srchOk_pow {n : Net} {s : Int} (hn : netOk n = true) (hs : inB 1 5 s = true) {k : Nat} (hk : k ≤ 10) : srchOk n s (2 ^ k - 1) 200000 = true := by
  have := pow_bd hk
  unfold srchOk
  rw [hn, hs, inB_iff.2 (show 0 ≤ (2 : Int) ^ k - 1 ∧ (2 : Int) ^ k - 1 ≤ 999999999999 by omega)]
  rfl
set_option maxRecDepth 100000 in
set_option maxHeartbeats 8000000 in
theorem fnExactLeastProofBits_impl (ve vi vn : Value) (n : Net) (s bits : Int) (w : World) (h : NetIn w ve vi vn n) (hsb : -9223372036854775808 ≤ s ∧ s ≤ 9223372036854775807) (_ : -9223372036854775808 ≤ bits ∧ bits ≤ 9223372036854775807) (hsz : szNet n ≤ 1048576) :
    Calls Try.prog 31 #[.agg #[ve, vi, vn], .int .i64 s, .int .i64 bits] w fun e w' => e = .returned (.tuple #[.int .i64 (fnExactLeastProofBits_r0 n s bits), .bool (fnExactLeastProofBits_r1 n s bits)]) ∧ Below w.heap.size w w' := by
  obtain ⟨w0, hw0⟩ : ∃ w0, w0 = (w).alloc (.cells #[ve, vi, vn] 31) := ⟨_, rfl⟩
  have hb0 : Below w.heap.size w w0 := by rw [hw0]; exact ((Below.refl _ _).alloc (by simp) _)
  have H := Lib.hid (h.keep hb0)
  obtain ⟨h1, h2, h3⟩ := h.keep hb0
  obtain ⟨A, c, rfl, hlc, hm, hA⟩ := h1
  obtain ⟨A2, c2, rfl, _, hm2, _⟩ := h2
  obtain ⟨A3, c3, rfl, _, hm3, _⟩ := h3
  unfold maxLen at hm hm2 hm3
  have p00 : ∀ W, Since w0 W → W.cell? ⟨w.heap.size, 0, none⟩ = some (.slice A n.ends.length c) := have_cell (by rw [hw0]; simp)
  have p01 : ∀ W, Since w0 W → W.cell? ⟨w.heap.size, 1, none⟩ = some (.slice A2 n.ids.length c2) := have_cell (by rw [hw0]; simp)
  have p02 : ∀ W, Since w0 W → W.cell? ⟨w.heap.size, 2, none⟩ = some (.slice A3 n.inputs.length c3) := have_cell (by rw [hw0]; simp)
  have Hb0 := Lib.hid hb0
  have Hw0 := Lib.hid hw0
  have HA := Lib.hid hA
  clear hA h
  clear hb0 hw0
  unfold fnExactLeastProofBits_r0 fnExactLeastProofBits_r1
  obtain ⟨R, hR⟩ : ∃ R, R = lpbR n s bits := ⟨_, rfl⟩
  rw [← hR]
  go_enter Try.func31, Try.ntmps31
  go_upto_region 1 with (fail)
  rw [← Hw0.out]
  refine wp_region_flow0 13 (Since w0) (since_refl _) ?_
  simp only [List.take_succ_cons, List.take_zero, List.drop_succ_cons, List.drop_zero]
  refine flow_val (v := ?_) rfl ?_ ?_; rotate_left; (intro W hW; go_simp; with_reducible rfl)
  simp only [Act.put, List.setIfInBounds_toArray, List.set_cons_succ, List.set_cons_zero]
  refine flow_op ?_ rfl ?_ ?_; rotate_left; (intro W hW; unfold Gives; go_simp; (with_reducible refine (isNetwork_any _ _ _ n W (H.out.keep hW.below) (szNet_ids hsz)).mono ?_); rintro e W' ⟨rfl, hb3⟩; first | (refine ⟨?_, Since.trans hW hb3⟩; with_reducible rfl) | (subst hb3; refine ⟨?_, hW⟩; with_reducible rfl))
  simp only [Act.put, List.setIfInBounds_toArray, List.set_cons_succ, List.set_cons_zero]
  refine flow_val (v := ?_) rfl ?_ ?_; rotate_left; (intro W hW; go_simp; with_reducible rfl)
  simp only [Act.put, List.setIfInBounds_toArray, List.set_cons_succ, List.set_cons_zero]
  refine flow_val (v := ?_) rfl ?_ ?_; rotate_left; (intro W hW; go_simp; with_reducible rfl)
  simp only [Act.put, List.setIfInBounds_toArray, List.set_cons_succ, List.set_cons_zero]
  refine flow_gval (v := ?_) rfl rfl ?_ ?_; rotate_left; (intro hb W hW; go_simp; with_reducible rfl)
  simp only [Act.put, List.setIfInBounds_toArray, List.set_cons_succ, List.set_cons_zero]
  refine flow_gop (v := ?_) rfl rfl ?_ ?_; rotate_left; (intro hb W hW; unfold Gives; go_simp; (with_reducible refine (isScheme_b _ W).mono ?_); rintro e W' ⟨rfl, hb3⟩; first | (refine ⟨?_, Since.trans hW hb3⟩; with_reducible rfl) | (subst hb3; refine ⟨?_, hW⟩; with_reducible rfl))
  simp only [Act.put, List.setIfInBounds_toArray, List.set_cons_succ, List.set_cons_zero]
  refine flow_gval (v := ?_) rfl rfl ?_ ?_; rotate_left; (intro hb W hW; go_simp; with_reducible rfl)
  simp only [Act.put, List.setIfInBounds_toArray, List.set_cons_succ, List.set_cons_zero]
  first | refine flow_or rfl rfl ?_ | (refine flow_val (v := ?_) rfl ?_ ?_; rotate_left; (intro W hW; go_simp; with_reducible rfl))
  simp only [Act.put, List.setIfInBounds_toArray, List.set_cons_succ, List.set_cons_zero]
  refine flow_val (v := ?_) rfl ?_ ?_; rotate_left; (intro W hW; go_simp; with_reducible rfl)
  simp only [Act.put, List.setIfInBounds_toArray, List.set_cons_succ, List.set_cons_zero]
  refine flow_gval (v := ?_) rfl rfl ?_ ?_; rotate_left; (intro hb W hW; go_simp; with_reducible rfl)
  simp only [Act.put, List.setIfInBounds_toArray, List.set_cons_succ, List.set_cons_zero]
  refine flow_gop (v := ?_) rfl rfl ?_ ?_; rotate_left; (intro hb W hW; unfold Gives; go_simp; (with_reducible refine (within_b _ _ _ W).mono ?_); rintro e W' ⟨rfl, hb3⟩; first | (refine ⟨?_, Since.trans hW hb3⟩; with_reducible rfl) | (subst hb3; refine ⟨?_, hW⟩; with_reducible rfl))
  simp only [Act.put, List.setIfInBounds_toArray, List.set_cons_succ, List.set_cons_zero]
  refine flow_gval (v := ?_) rfl rfl ?_ ?_; rotate_left; (intro hb W hW; go_simp; with_reducible rfl)
  simp only [Act.put, List.setIfInBounds_toArray, List.set_cons_succ, List.set_cons_zero]
  first | refine flow_or rfl rfl ?_ | (refine flow_val (v := ?_) rfl ?_ ?_; rotate_left; (intro W hW; go_simp; with_reducible rfl))
  simp only [Act.put, List.setIfInBounds_toArray, List.set_cons_succ, List.set_cons_zero]
  intro W hW
  cases hg : (!netOk n || !inB 1 5 s || !inB 0 10 bits)
  · simp only [Bool.or_eq_false_iff, Bool.not_eq_false'] at hg
    have hok : lpbOk n s bits = true := by simp [lpbOk, hg.1.1, hg.1.2, hg.2]
    have hs15 := inB_iff.1 hg.1.2
    have hbt := inB_iff.1 hg.2
    have Hn := Lib.hid (And.intro hg.1.1 hg.1.2)
    obtain ⟨bt, rfl⟩ := Int.eq_ofNat_of_zero_le hbt.1
    have HR : Hid (lpb (lpbSt n s) (bt + 1) 0 = R) := by show _ = _; rw [hR, lpbR, if_pos hok]; simp
    have m0 : IntKind.i64.wrap ((bt : Int) + 1) = (bt : Int) + 1 := wr64 _ (by omega) (by omega)
    clear hg hok hR
    go_wp2
    go_loopw [28] (fun i wr => ∃ k : Nat, k ≤ bt + 1 ∧ i = .int .i64 k ∧ lpb (lpbSt n s) (bt + 1 - k) k = R ∧ Since w0 wr) (fun i _ => bt + 1 - (intOf i).toNat)
    case atStart => exact ⟨0, Nat.zero_le _, rfl, HR.out, hW⟩
    case round =>
      obtain ⟨k, hk, rfl, hRk, hs⟩ := hrel
      have HRk := Lib.hid hRk
      clear hW hRk
      by_cases hlt : k < bt + 1
      · have hk10 : k ≤ 10 := by omega
        obtain ⟨p, hp⟩ : ∃ p : Int, p = 2 ^ k := ⟨_, rfl⟩
        have hpb := pow_bd hk10
        have m1 : IntKind.i64.wrap (2 ^ k) = p := by rw [hp]; exact wr64 _ (by omega) (by omega)
        rw [← hp] at hpb
        have m2 : IntKind.i64.wrap (p - 1) = p - 1 := wr64 _ (by omega) (by omega)
        have Hso : Hid (srchOk n s (p - 1) 200000 = true) := by rw [hp]; exact srchOk_pow Hn.out.1 Hn.out.2 hk10
        have Hst : Hid (lpbSt n s k = (srchR n s 0 (p - 1) 200000).2.1) := by show _ = _; rw [hp]; rfl
        obtain ⟨st, hst⟩ : ∃ st, st = (srchR n s 0 (p - 1) 200000).2.1 := ⟨_, rfl⟩
        obtain ⟨mk, hmk⟩ : ∃ mk, mk = (srchR n s 0 (p - 1) 200000).2.2 := ⟨_, rfl⟩
        have Hst2 := Lib.hid hst
        have E1 : Hid (fnExactSearchAccepted_r1 n s (p - 1) 200000 = st) := by show _ = _; unfold fnExactSearchAccepted_r1; rw [if_pos Hso.out, hst]
        have E2 : Hid (fnExactSearchAccepted_r2 n s (p - 1) 200000 = mk) := by show _ = _; unfold fnExactSearchAccepted_r2; rw [if_pos Hso.out, hmk]
        have E3 : Hid (fnExactSearchAccepted_r3 n s (p - 1) 200000 = true) := Hso.out
        have Hcall : Hid (∀ W, Since wr W → Calls Try.prog 80 #[.agg #[.slice A n.ends.length c, .slice A2 n.ids.length c2, .slice A3 n.inputs.length c3], .int .i64 s, .int .i64 (p - 1), .int .i64 200000] W fun e w' => ∃ u, e = .returned (.tuple #[u, .int .i64 st, .int .i64 mk, .bool true]) ∧ Below W.heap.size W w') := fun W hW => by
          have := fnExactSearchAccepted_impl _ _ _ n s (p - 1) 200000 W (H.out.keep (hs.after hW).below) hsb (by omega) (by omega) hsz
          rw [E1.out, E2.out, E3.out] at this
          exact this.mono fun e w' ⟨u, h1, _, h3⟩ => ⟨u, h1, h3⟩
        have q0 := lift_cell p00 hs
        have q1 := lift_cell p01 hs
        have q2 := lift_cell p02 hs
        have hk64 : (k : Int) ≤ 64 := by omega
        have Hs := Lib.hid hs
        clear hp hst hmk hs
        go_upto_region 6 with (fail)
        refine wp_region_one (w0 := wr) 5 rfl (fun _ u => ∃ u0, u = .tuple #[u0, .int .i64 st, .int .i64 mk, .bool true]) (fun _ _ _ h _ => h) (by kernel_rfl) (by kernel_rfl) (by kernel_rfl) (by simp) (since_refl _) ?_
        simp only [List.take_succ_cons, List.take_zero, List.drop_succ_cons, List.drop_zero]
        refine pflow_val (v := ?_) rfl ?_ ?_; rotate_left; (intro W hW; go_simp; with_reducible rfl)
        simp only [Act.put, List.setIfInBounds_toArray, List.set_cons_succ, List.set_cons_zero]
        refine pflow_val (v := ?_) rfl ?_ ?_; rotate_left; (intro W hW; go_simp; with_reducible rfl)
        simp only [Act.put, List.setIfInBounds_toArray, List.set_cons_succ, List.set_cons_zero]
        refine pflow_val (v := ?_) rfl ?_ ?_; rotate_left; (intro W hW; go_simp; with_reducible rfl)
        simp only [Act.put, List.setIfInBounds_toArray, List.set_cons_succ, List.set_cons_zero]
        refine pflow_val (v := ?_) rfl ?_ ?_; rotate_left; (intro W hW; go_simp; with_reducible rfl)
        simp only [Act.put, List.setIfInBounds_toArray, List.set_cons_succ, List.set_cons_zero]
        refine pflow_val (v := ?_) rfl ?_ ?_; rotate_left; (intro W hW; go_simp; with_reducible rfl)
        simp only [Act.put, List.setIfInBounds_toArray, List.set_cons_succ, List.set_cons_zero]
        refine ⟨⟨rfl, fun W hW => ?_⟩, fun u => ?_⟩
        · unfold GivesAny
          go_simp
          refine (Hcall.out W hW).mono ?_
          rintro e W' ⟨u0, rfl, hb⟩
          exact ⟨_, rfl, ⟨u0, rfl⟩, hb⟩
        simp only [Act.put, List.setIfInBounds_toArray, List.set_cons_succ, List.set_cons_zero]
        refine flow_val (v := u) rfl (fun W hW => by go_simp) ?_
        simp only [Act.put, List.setIfInBounds_toArray, List.set_cons_succ, List.set_cons_zero]
        refine flow_val (v := tupAt u 0) rfl (fun W hW => by obtain ⟨u0, rfl⟩ := hW.2; clear hW; go_simp; rfl) ?_
        simp only [Act.put, List.setIfInBounds_toArray, List.set_cons_succ, List.set_cons_zero]
        refine flow_val (v := .int .i64 st) rfl (fun W hW => by obtain ⟨u0, rfl⟩ := hW.2; clear hW; go_simp) ?_
        simp only [Act.put, List.setIfInBounds_toArray, List.set_cons_succ, List.set_cons_zero]
        refine flow_val (v := .int .i64 mk) rfl (fun W hW => by obtain ⟨u0, rfl⟩ := hW.2; clear hW; go_simp) ?_
        simp only [Act.put, List.setIfInBounds_toArray, List.set_cons_succ, List.set_cons_zero]
        refine flow_val (v := .bool true) rfl (fun W hW => by obtain ⟨u0, rfl⟩ := hW.2; clear hW; go_simp) ?_
        simp only [Act.put, List.setIfInBounds_toArray, List.set_cons_succ, List.set_cons_zero]
        refine flow_val (v := tupAt u 0) rfl (fun W hW => by go_simp) ?_
        simp only [Act.put, List.setIfInBounds_toArray, List.set_cons_succ, List.set_cons_zero]
        refine flow_val (v := .int .i64 st) rfl (fun W hW => by go_simp) ?_
        simp only [Act.put, List.setIfInBounds_toArray, List.set_cons_succ, List.set_cons_zero]
        refine flow_val (v := .int .i64 mk) rfl (fun W hW => by go_simp) ?_
        simp only [Act.put, List.setIfInBounds_toArray, List.set_cons_succ, List.set_cons_zero]
        refine flow_val (v := .bool true) rfl (fun W hW => by go_simp) ?_
        simp only [Act.put, List.setIfInBounds_toArray, List.set_cons_succ, List.set_cons_zero]
        intro W9 hW9 _
        have Hs9 := Lib.hid (Hs.out.after hW9)
        have HRn := HRk.out
        rw [show bt + 1 - k = (bt + 1 - (k + 1)) + 1 by omega, lpb, Hst.out, ← Hst2.out] at HRn
        have HRN := Lib.hid HRn
        have m3 : IntKind.i64.wrap ((k : Int) + 1) = (k : Int) + 1 := wr64 _ (by omega) (by omega)
        clear HRn hW9 q0 q1 q2 m1
        by_cases h1 : st = 1
        · have Hr : Hid (R = ((k : Int), true)) := by rw [← HRN.out, if_pos h1]; exact rfl
          have e1 : (st == 1) = true := by simpa using h1
          go_wp2
          go_ret2
          exact ⟨tupR Hr.out, Since.after Hb0.out Hs9.out⟩
        · have e1 : (st == 1) = false := by simpa using h1
          by_cases h3 : st = 3
          · have Hr : Hid (R = (0, false)) := by rw [← HRN.out, if_neg h1, if_pos h3]; exact rfl
            have e3 : (st == 3) = true := by simpa using h3
            clear h1
            go_wp2
            go_ret2
            exact ⟨tupR Hr.out, Since.after Hb0.out Hs9.out⟩
          · have e3 : (st == 3) = false := by simpa using h3
            have Hr : Hid (lpb (lpbSt n s) (bt + 1 - (k + 1)) (k + 1) = R) := by rw [← HRN.out, if_neg h1, if_neg h3]; exact rfl
            go_wp2
            go_roundw
            case rel => exact ⟨k + 1, by omega, by go_num, Hr.out, Hs9.out⟩
            case measure => simp [intOf]; omega
      · obtain rfl : k = bt + 1 := by omega
        have Hr : Hid (R = (0, false)) := by rw [← HRk.out, Nat.sub_self]; exact rfl
        go_wp2
        go_ret2
        exact ⟨tupR Hr.out, Since.after Hb0.out hs⟩
  · have hok : lpbOk n s bits = false := by
      unfold lpbOk
      revert hg
      cases netOk n <;> cases inB 1 5 s <;> cases inB 0 10 bits <;> simp
    have Hr : Hid (R = (0, false)) := by show _ = _; rw [hR, lpbR, hok]; simp
    have HW := Lib.hid hW
    clear hg hok hR hW
    go_wp2
    go_ret2
    exact ⟨tupR Hr.out, Since.after Hb0.out HW.out⟩
end Go.Proofs.Ytbfoefkfcnaimaa
