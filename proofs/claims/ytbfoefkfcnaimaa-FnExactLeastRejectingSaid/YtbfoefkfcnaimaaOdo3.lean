import Derived.Test.YtbfoefkfcnaimaaOdo2
namespace Go.Proofs.Ytbfoefkfcnaimaa
open Go.RowKit
theorem labOk_listB {n : Net} {s : Int} {mo : Nat} (hn : netOk n = true) (hs : inB 1 5 s = true) (hm : mo < 20000) (k : Nat) : labOk n s (listB (mo + 1) n.ends.length k) = true := by
  unfold labOk allB'
  rw [hn, hs, listB_len]
  simp only [Bool.true_and, beq_self_eq_true]
  rw [List.all_eq_true]
  intro x hx
  have := listB_in (B := mo + 1) (by omega) n.ends.length k x hx
  exact inB_iff.2 (by omega)
def cntAcc (n : Net) (s : Int) (B : Nat) : Nat → Nat
  | 0 => 0
  | k + 1 => cntAcc n s B k + if (rejL n s (listB B n.ends.length k)).length = 0 then 1 else 0
theorem cntAcc_le (n : Net) (s : Int) (B k : Nat) : cntAcc n s B k ≤ k := by
  induction k with
  | zero => exact Nat.le_refl _
  | succ k ih => unfold cntAcc; split <;> omega
def fnExactCountAccepted_r1 (n : Net) (s most : Int) : Bool := askB n s most && (listsB most n.ends.length).isSome
def fnExactCountAccepted_r0 (n : Net) (s most : Int) : Int := if fnExactCountAccepted_r1 n s most then (cntAcc n s (most.toNat + 1) (listsI most n.ends.length).toNat : Int) else 0
/-- what is so when the question is good -/
theorem ask_at {n : Net} {s most : Int} (h : fnExactCountAccepted_r1 n s most = true) : netOk n = true ∧ inB 1 5 s = true ∧ ∃ mo c : Nat, most = mo ∧ mo < 20000 ∧ listsB most n.ends.length = some (c : Int) ∧ 1 ≤ c ∧ c ≤ 20000 ∧ listsI most n.ends.length = c := by
  unfold fnExactCountAccepted_r1 askB at h
  simp only [Bool.and_eq_true] at h
  obtain ⟨⟨⟨h1, h2⟩, h3⟩, h4⟩ := h
  have hm := inB_iff.1 h3
  obtain ⟨mo, rfl⟩ := Int.eq_ofNat_of_zero_le hm.1
  obtain ⟨c, hc⟩ := Option.isSome_iff_exists.1 h4
  have hb := lists_bd (by omega) _ hc
  obtain ⟨cn, rfl⟩ := Int.eq_ofNat_of_zero_le (show 0 ≤ c by omega)
  have := (netOk_len h1).1
  exact ⟨h1, h2, mo, cn, rfl, by have := hb.2.2 (by omega); omega, hc, by omega, by omega, by simp [listsI, hc]⟩
theorem tupib {a b : Int} {c d : Bool} (h1 : a = b) (h2 : c = d) : Ending.returned (.tuple #[.int .i64 a, .bool c]) = .returned (.tuple #[.int .i64 b, .bool d]) := by rw [h1, h2]
theorem cond1_any {n : Net} {s most : Int} (h : (!askB n s most || decide (listsI most n.ends.length < 0)) = false) : fnExactCountAccepted_r1 n s most = true := by
  simp only [Bool.or_eq_false_iff, Bool.not_eq_false'] at h
  have h0 : 0 ≤ most := by have := h.1; unfold askB at this; simp only [Bool.and_eq_true] at this; exact (inB_iff.1 this.2).1
  rw [listsI_neg h0] at h
  simp only [Bool.not_eq_false'] at h
  simp [fnExactCountAccepted_r1, h.1, h.2]
theorem cond1_not {n : Net} {s most : Int} (h : (!askB n s most || decide (listsI most n.ends.length < 0)) = true) : fnExactCountAccepted_r1 n s most = false := by
  unfold fnExactCountAccepted_r1
  cases ha : askB n s most
  · rfl
  · have h0 : 0 ≤ most := by have := ha; unfold askB at this; simp only [Bool.and_eq_true] at this; exact (inB_iff.1 this.2).1
    rw [ha, listsI_neg h0] at h
    simpa using h
theorem ask_most {n : Net} {s most : Int} (h : askB n s most = true) : netOk n = true ∧ 0 ≤ most ∧ most ≤ 999999999999 ∧ n.ends.length ≤ 40 := by
  unfold askB at h
  simp only [Bool.and_eq_true] at h
  exact ⟨h.1.1, (inB_iff.1 h.2).1, (inB_iff.1 h.2).2, (netOk_len h.1.1).2⟩
set_option maxRecDepth 100000 in
set_option maxHeartbeats 8000000 in
theorem fnExactCountAccepted_spec (ve vi vn : Value) (n : Net) (s most : Int) (w : World) (h : NetIn w ve vi vn n) (_ : -9223372036854775808 ≤ s ∧ s ≤ 9223372036854775807) (_ : -9223372036854775808 ≤ most ∧ most ≤ 9223372036854775807) (hsz : szNet n ≤ 1048576) :
    Calls Try.prog 26 #[.agg #[ve, vi, vn], .int .i64 s, .int .i64 most] w fun e w' => e = .returned (.tuple #[.int .i64 (fnExactCountAccepted_r0 n s most), .bool (fnExactCountAccepted_r1 n s most)]) ∧ Below w.heap.size w w' := by
  obtain ⟨w0, hw0⟩ : ∃ w0, w0 = (w).alloc (.cells #[ve, vi, vn] 31) := ⟨_, rfl⟩
  have hb0 : Below w.heap.size w w0 := by rw [hw0]; exact ((Below.refl _ _).alloc (by simp) _)
  have H := Lib.hid (h.keep hb0)
  obtain ⟨h1, h2, h3⟩ := h.keep hb0
  obtain ⟨A, c, rfl, hlc, hm, hA⟩ := h1
  obtain ⟨A2, c2, rfl, _, hm2, _⟩ := h2
  obtain ⟨A3, c3, rfl, _, hm3, _⟩ := h3
  unfold maxLen at hm hm2 hm3
  have p00 : ∀ W, Since w0 W → W.cell? ⟨w.heap.size, 0, none⟩ = some (.slice A n.ends.length c) := have_cell (by rw [hw0]; simp)
  have p01 : ∀ W, Since w0 W → W.cell? ⟨w.heap.size, 1, none⟩ = some (.slice A2 n.ids.length c2) := have_cell (by rw [hw0]; simp)
  have p02 : ∀ W, Since w0 W → W.cell? ⟨w.heap.size, 2, none⟩ = some (.slice A3 n.inputs.length c3) := have_cell (by rw [hw0]; simp)
  have Hb0 := Lib.hid hb0
  have Hw0 := Lib.hid hw0
  have HA := Lib.hid hA
  clear hA h
  clear hb0 hw0
  go_enter Try.func26, Try.ntmps26
  go_upto_region 1 with (fail)
  rw [← Hw0.out]
  refine wp_region_flow0 11 (Since w0) (since_refl _) ?_
  simp only [List.take_succ_cons, List.take_zero, List.drop_succ_cons, List.drop_zero]
  refine flow_val (v := ?_) rfl ?_ ?_; rotate_left; (intro W hW; go_simp; with_reducible rfl)
  simp only [Act.put, List.setIfInBounds_toArray, List.set_cons_succ, List.set_cons_zero]
  refine flow_val (v := ?_) rfl ?_ ?_; rotate_left; (intro W hW; go_simp; with_reducible rfl)
  simp only [Act.put, List.setIfInBounds_toArray, List.set_cons_succ, List.set_cons_zero]
  refine flow_val (v := ?_) rfl ?_ ?_; rotate_left; (intro W hW; go_simp; with_reducible rfl)
  simp only [Act.put, List.setIfInBounds_toArray, List.set_cons_succ, List.set_cons_zero]
  refine flow_op ?_ rfl ?_ ?_; rotate_left; (intro W hW; unfold Gives; go_simp; (with_reducible refine (atAsked_any _ _ _ n s most W (H.out.keep hW.below)).mono ?_); rintro e W' ⟨rfl, hb3⟩; first | (refine ⟨?_, Since.trans hW hb3⟩; with_reducible rfl) | (subst hb3; refine ⟨?_, hW⟩; with_reducible rfl))
  simp only [Act.put, List.setIfInBounds_toArray, List.set_cons_succ, List.set_cons_zero]
  refine flow_val (v := ?_) rfl ?_ ?_; rotate_left; (intro W hW; go_simp; with_reducible rfl)
  simp only [Act.put, List.setIfInBounds_toArray, List.set_cons_succ, List.set_cons_zero]
  refine flow_val (v := ?_) rfl ?_ ?_; rotate_left; (intro W hW; go_simp; with_reducible rfl)
  simp only [Act.put, List.setIfInBounds_toArray, List.set_cons_succ, List.set_cons_zero]
  refine flow_gval (v := ?_) rfl rfl ?_ ?_; rotate_left; (intro hb W hW; go_simp; with_reducible rfl)
  simp only [Act.put, List.setIfInBounds_toArray, List.set_cons_succ, List.set_cons_zero]
  refine flow_gval (v := ?_) rfl rfl ?_ ?_; rotate_left; (intro hb W hW; go_simp; with_reducible rfl)
  simp only [Act.put, List.setIfInBounds_toArray, List.set_cons_succ, List.set_cons_zero]
  refine flow_gop (v := ?_) rfl rfl ?_ ?_; rotate_left; (intro hb W hW; unfold Gives; go_simp; (with_reducible refine (atLists_any _ _ _ n most W (H.out.keep hW.below) (ask_most (by simpa using hb)).2.1 (ask_most (s := s) (by simpa using hb)).2.2.1 (ask_most (s := s) (most := most) (by simpa using hb)).2.2.2).mono ?_); rintro e W' ⟨rfl, hb3⟩; first | (refine ⟨?_, Since.trans hW hb3⟩; with_reducible rfl) | (subst hb3; refine ⟨?_, hW⟩; with_reducible rfl))
  simp only [Act.put, List.setIfInBounds_toArray, List.set_cons_succ, List.set_cons_zero]
  refine flow_gval (v := ?_) rfl rfl ?_ ?_; rotate_left; (intro hb W hW; go_simp; with_reducible rfl)
  simp only [Act.put, List.setIfInBounds_toArray, List.set_cons_succ, List.set_cons_zero]
  first | refine flow_or rfl rfl ?_ | (refine flow_val (v := ?_) rfl ?_ ?_; rotate_left; (intro W hW; go_simp; with_reducible rfl))
  simp only [Act.put, List.setIfInBounds_toArray, List.set_cons_succ, List.set_cons_zero]
  intro W hW
  cases hg : (!askB n s most || decide (listsI most n.ends.length < 0))
  · have hr := cond1_any hg
    have Hr := Lib.hid hr
    obtain ⟨a1, a2, mo, c, rfl, hmo, a3, hc1, hc2, a4⟩ := ask_at hr
    have A4 := Lib.hid a4
    have Hd := Lib.hid (show fnExactCountAccepted_r0 n s mo = (cntAcc n s (mo + 1) c : Int) by unfold fnExactCountAccepted_r0; rw [if_pos hr, a4]; simp)
    have hn2 : n.ends.length ≤ 40 := (netOk_len a1).2
    have Hlo := Lib.hid (labOk_listB (s := s) a1 a2 hmo)
    clear hg hr a1 a2 a3 a4
    go_wp2
    go_loopw [8, 9] (fun q i wr => ∃ k : Nat, k ≤ c ∧ i = .int .i64 k ∧ q = .int .i64 (cntAcc n s (mo + 1) k) ∧ Since w0 wr) (fun _ i _ => c - (intOf i).toNat)
    case atStart => exact ⟨0, Nat.zero_le _, rfl, rfl, hW⟩
    case round =>
      obtain ⟨k, hk, rfl, rfl, hs⟩ := hrel
      clear hW
      go_wp2_with fail
      have hcal := atLists_any _ _ _ n mo _ (H.out.keep hs.below) (by omega) (by omega) hn2
      rw [A4.out] at hcal
      refine hcal.mono ?_
      clear hcal
      rintro e W2 ⟨rfl, hb2⟩
      have hs2 := Since.trans hs hb2
      clear hs hb2
      by_cases hlt : k < c
      · have hkl := cntAcc_le n s (mo + 1) k
        go_upto_region 7 with (fail)
        have q00 := lift_cell p00 hs2
        have q01 := lift_cell p01 hs2
        have q02 := lift_cell p02 hs2
        refine wp_region_chain (w0 := W2) 9 [false, false, false, false, false, true, true, true, true] (by kernel_rfl) (by kernel_rfl) (since_refl _) ?_
        simp only [selF, selT, List.take_succ_cons, List.take_zero, List.drop_succ_cons, List.drop_zero]
        refine pflow_val (v := ?_) rfl ?_ ?_; rotate_left; (intro W hW; go_simp; with_reducible rfl)
        simp only [Act.put, List.setIfInBounds_toArray, List.set_cons_succ, List.set_cons_zero]
        refine pflow_val (v := ?_) rfl ?_ ?_; rotate_left; (intro W hW; go_simp; with_reducible rfl)
        simp only [Act.put, List.setIfInBounds_toArray, List.set_cons_succ, List.set_cons_zero]
        refine pflow_val (v := ?_) rfl ?_ ?_; rotate_left; (intro W hW; go_simp; with_reducible rfl)
        simp only [Act.put, List.setIfInBounds_toArray, List.set_cons_succ, List.set_cons_zero]
        refine pflow_val (v := ?_) rfl ?_ ?_; rotate_left; (intro W hW; go_simp; with_reducible rfl)
        simp only [Act.put, List.setIfInBounds_toArray, List.set_cons_succ, List.set_cons_zero]
        refine pflow_val (v := ?_) rfl ?_ ?_; rotate_left; (intro W hW; go_simp; with_reducible rfl)
        simp only [Act.put, List.setIfInBounds_toArray, List.set_cons_succ, List.set_cons_zero]
        intro W hW
        refine Or.inl ⟨rfl, ?_⟩
        go_simp
        (with_reducible refine (atList_any _ _ _ n mo k W (H.out.keep (hs2.after hW).below) hmo (by omega) hn2).mono ?_)
        rintro e W' ⟨u, rfl, ho, hb⟩
        refine ⟨_, rfl, hW.trans hb, ?_⟩
        replace hW := hW.trans hb
        have HO := Lib.hid ho; clear ho hb; obtain ⟨Bu, du, rfl, _⟩ := id HO.out.ints
        (try simp only [Act.put, List.setIfInBounds_toArray, List.set_cons_succ, List.set_cons_zero])
        refine Or.inl ⟨rfl, ?_⟩
        go_simp
        (with_reducible refine (plRejects_any _ _ _ _ n s (listB (mo + 1) n.ends.length k) _ (H.out.keep (hs2.after hW).below) HO.out.ints (Hlo.out k)).mono ?_)
        rintro e W' ⟨u, rfl, ho, hb⟩
        refine ⟨_, rfl, hW.trans hb, ?_⟩
        replace hW := hW.trans hb
        obtain ⟨Bv, dv, rfl, _⟩ := id ho.ints; clear ho hb
        (try simp only [Act.put, List.setIfInBounds_toArray, List.set_cons_succ, List.set_cons_zero])
        refine tflow_val (v := ?_) rfl ?_ hW ?_; rotate_left; (go_simp; with_reducible rfl)
        simp only [Act.put, List.setIfInBounds_toArray, List.set_cons_succ, List.set_cons_zero]
        refine tflow_val (v := ?_) rfl ?_ hW ?_; rotate_left; (go_simp; with_reducible rfl)
        simp only [Act.put, List.setIfInBounds_toArray, List.set_cons_succ, List.set_cons_zero]
        simp only [TFlow]
        have hs3 := hs2.after hW
        clear q00 q01 q02 hW hs2 HO
        have m1 : IntKind.i64.wrap ((cntAcc n s (mo + 1) k : Int) + 1) = (cntAcc n s (mo + 1) k : Int) + 1 := wr64 _ (by omega) (by omega)
        have m2 : IntKind.i64.wrap ((k : Int) + 1) = (k : Int) + 1 := wr64 _ (by omega) (by omega)
        by_cases he : (rejL n s (listB (mo + 1) n.ends.length k)).length = 0
        · have Hn : Hid (cntAcc n s (mo + 1) (k + 1) = cntAcc n s (mo + 1) k + 1) := by show _ = _; rw [cntAcc, if_pos he]
          rw [he]
          clear he
          go_wp2
          go_roundw
          case rel => exact ⟨k + 1, by omega, by go_num, by rw [Hn.out]; go_num, hs3⟩
          case measure => simp [intOf]; omega
        · have Hn : Hid (cntAcc n s (mo + 1) (k + 1) = cntAcc n s (mo + 1) k) := by show _ = _; rw [cntAcc, if_neg he]; rfl
          have hz : (((rejL n s (listB (mo + 1) n.ends.length k)).length : Int) == 0) = false := by rw [beq_eq_false_iff_ne]; omega
          go_wp2
          go_roundw
          case rel => exact ⟨k + 1, by omega, by go_num, by rw [Hn.out], hs3⟩
          case measure => simp [intOf]; omega
      · obtain rfl : k = c := by omega
        go_wp2
        go_ret2
        exact ⟨tupib Hd.out.symm Hr.out.symm, Since.after Hb0.out hs2⟩
  · have hr := cond1_not hg
    have Hr := Lib.hid hr
    have Hd := Lib.hid (show fnExactCountAccepted_r0 n s most = 0 by unfold fnExactCountAccepted_r0; rw [if_neg (by rw [hr]; simp)])
    have HW := Lib.hid hW
    clear hg hr hW
    go_wp2
    go_ret2
    exact ⟨tupib Hd.out.symm Hr.out.symm, Since.after Hb0.out HW.out⟩
end Go.Proofs.Ytbfoefkfcnaimaa
