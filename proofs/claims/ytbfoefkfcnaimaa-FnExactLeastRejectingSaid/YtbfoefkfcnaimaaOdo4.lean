import Derived.Test.YtbfoefkfcnaimaaOdo3
namespace Go.Proofs.Ytbfoefkfcnaimaa
open Go.RowKit
theorem I1.only {W W' : World} {b : Nat} {x : Int} {S : List Nat} (h : I1 W b x) (ho : Only S W W') (hb : b ∉ S) : I1 W' b x := (ho.block b h.lt hb).trans h
theorem oneIf_d (b : Bool) (d : Int) (hd : d = if b = true then 1 else 0) (w : World) : Calls Try.prog 75 #[.bool b] w fun e w' => e = .returned (.int .i64 d) ∧ w = w' := by rw [hd]; exact oneIf_any b w
set_option maxHeartbeats 4000000 in
theorem countC_any (ve vi vn vl : Value) (n : Net) (s : Int) (ls : List Int) (q : Int) (bc bn bs : Nat) (w : World) (h : NetIn w ve vi vn n) (hl : IntS w vl ls) (hok : labOk n s ls = true) (hc : I1 w bc q) (hq0 : 0 ≤ q) (hq1 : q ≤ 20000) (d : Int) (hd : d = if (rejL n s ls).length = 0 then 1 else 0)
    (c0 : w.cell? ⟨bn, 0, none⟩ = some ve) (c1 : w.cell? ⟨bn, 1, none⟩ = some vi) (c2 : w.cell? ⟨bn, 2, none⟩ = some vn) (c3 : w.cell? ⟨bs, 0, none⟩ = some (.int .i64 s)) :
    Calls Try.prog 74 #[vl, .pointer (some ⟨bc, 0, none⟩), .pointer (some ⟨bn, 0, none⟩), .pointer (some ⟨bs, 0, none⟩)] w fun e w' => ∃ u, e = .returned u ∧ I1 w' bc (q + d) ∧ Only [bc] w w' := by
  have H := Lib.hid h
  have HL := Lib.hid hl
  have Hok := Lib.hid hok
  have HC := Lib.hid hc
  obtain ⟨AL, cL, rfl, hlL, hmL, _⟩ := hl
  obtain ⟨⟨A, c, rfl, hlc, hm, _⟩, ⟨A2, c2', rfl, _, hm2', _⟩, ⟨A3, c3', rfl, _, hm3', _⟩⟩ := h
  have p0 := have_cell c0
  have p1 := have_cell c1
  have p2 := have_cell c2
  have p3 := have_cell c3
  have p4 := have_cell hc.cells.1
  clear hok hc c0 c1 c2 c3
  obtain ⟨bz, hbz⟩ : ∃ b : Bool, (((rejL n s ls).length : Int) == 0) = b := ⟨_, rfl⟩
  have Hbz := Lib.hid hbz
  have hd2 : d = if bz = true then 1 else 0 := by
    rw [hd, ← hbz]
    by_cases hz : (rejL n s ls).length = 0 <;> simp [hz]
  have hd3 : 0 ≤ d ∧ d ≤ 1 := by rw [hd]; split <;> omega
  have Hd2 := Lib.hid hd2
  have m1 : IntKind.i64.wrap (q + d) = q + d := wr64 _ (by omega) (by omega)
  clear hd hd2 hd3
  go_enter Try.func74, Try.ntmps74
  go_upto_region 0 with (fail)
  refine wp_region_chain (w0 := w) 9 [false, false, false, false, true, true, true, true, true] (by kernel_rfl) (by kernel_rfl) (since_refl _) ?_
  simp only [selF, selT, List.take_succ_cons, List.take_zero, List.drop_succ_cons, List.drop_zero]
  refine pflow_val (v := ?_) rfl ?_ ?_; rotate_left; (intro W hW; go_simp; with_reducible rfl)
  simp only [Act.put, List.setIfInBounds_toArray, List.set_cons_succ, List.set_cons_zero]
  refine pflow_val (v := ?_) rfl ?_ ?_; rotate_left; (intro W hW; go_simp; with_reducible rfl)
  simp only [Act.put, List.setIfInBounds_toArray, List.set_cons_succ, List.set_cons_zero]
  refine pflow_val (v := ?_) rfl ?_ ?_; rotate_left; (intro W hW; go_simp; with_reducible rfl)
  simp only [Act.put, List.setIfInBounds_toArray, List.set_cons_succ, List.set_cons_zero]
  refine pflow_val (v := ?_) rfl ?_ ?_; rotate_left; (intro W hW; go_simp; with_reducible rfl)
  simp only [Act.put, List.setIfInBounds_toArray, List.set_cons_succ, List.set_cons_zero]
  intro W hW
  refine Or.inl ⟨rfl, ?_⟩
  go_simp
  (with_reducible refine (rejecting_any _ _ _ _ n s ls W (H.out.keep hW.below) (HL.out.keep hW.below) Hok.out).mono ?_)
  rintro e W' ⟨u, rfl, ho, hb⟩
  refine ⟨_, rfl, hW.trans hb, ?_⟩
  replace hW := hW.trans hb
  obtain ⟨Bv, dv, rfl, _⟩ := id ho.ints; clear ho hb
  (try simp only [Act.put, List.setIfInBounds_toArray, List.set_cons_succ, List.set_cons_zero])
  refine tflow_val (v := ?_) rfl ?_ hW ?_; rotate_left; (go_simp; with_reducible rfl)
  simp only [Act.put, List.setIfInBounds_toArray, List.set_cons_succ, List.set_cons_zero]
  refine tflow_val (v := ?_) rfl ?_ hW ?_; rotate_left; (go_simp; with_reducible rfl)
  simp only [Act.put, List.setIfInBounds_toArray, List.set_cons_succ, List.set_cons_zero]
  refine Or.inl ⟨rfl, ?_⟩
  go_simp
  (with_reducible refine (oneIf_d bz d Hd2.out _).mono ?_)
  rintro e W' ⟨rfl, hw⟩
  refine ⟨_, rfl, hw ▸ hW, ?_⟩
  replace hW := hw ▸ hW
  clear hw
  (try simp only [Act.put, List.setIfInBounds_toArray, List.set_cons_succ, List.set_cons_zero])
  refine tflow_val (v := ?_) rfl ?_ hW ?_; rotate_left; (go_simp; with_reducible rfl)
  simp only [Act.put, List.setIfInBounds_toArray, List.set_cons_succ, List.set_cons_zero]
  simp only [TFlow]
  have HW := Lib.hid hW
  have cz := (HC.out.since hW).cells.1
  have fz := (HC.out.since hW).cells.2
  clear p0 p1 p2 p3 p4 hbz hW
  go_wp2
  first | go_end0 | refine bodyPost_ret (results_none rfl _ _ _) rfl ?_
  exact ⟨⟨_, rfl⟩, (HC.out.since HW.out).set (q + d), (Only.of_below HW.out.below).setCell (.inl (by simp)) _⟩
theorem countC_enters : ∀ args w, (callFunc 74 args).run Try.prog w = .ok (.enter 74 args) w := enters_of Try.func74 (by kernel_rfl) rfl
theorem ask_bool (n : Net) (s most : Int) : fnExactCountAccepted_r1 n s most = (netOk n && inB 1 5 s && !decide (most < 0) && (listsB most n.ends.length).isSome) := by
  unfold fnExactCountAccepted_r1 askB
  cases h1 : netOk n
  · simp
  · by_cases h0 : most < 0
    · have e1 : inB 0 999999999999 most = false := inB_neg.2 (by omega)
      have e2 : decide (most < 0) = true := by simpa using h0
      rw [e1, e2]
      simp
    · have e2 : decide (most < 0) = false := by simpa using h0
      rw [e2]
      cases h2 : listsB most n.ends.length with
      | none => simp
      | some c =>
        have := (lists_bd (by omega) _ h2).2.2 (by have := (netOk_len h1).1; omega)
        have e1 : inB 0 999999999999 most = true := inB_iff.2 (by omega)
        rw [e1]
        simp
set_option maxRecDepth 100000 in
set_option maxHeartbeats 8000000 in
theorem fnExactCountAccepted_impl (ve vi vn : Value) (n : Net) (s most : Int) (w : World) (h : NetIn w ve vi vn n) (_ : -9223372036854775808 ≤ s ∧ s ≤ 9223372036854775807) (hmb : -9223372036854775808 ≤ most ∧ most ≤ 9223372036854775807) (hsz : szNet n ≤ 1048576) :
    Calls Try.prog 27 #[.agg #[ve, vi, vn], .int .i64 s, .int .i64 most] w fun e w' => e = .returned (.tuple #[.int .i64 (fnExactCountAccepted_r0 n s most), .bool (fnExactCountAccepted_r1 n s most)]) ∧ Below w.heap.size w w' := by
  obtain ⟨w0, hw0⟩ : ∃ w0, w0 = ((w).alloc (.cells #[ve, vi, vn] 31)).alloc (.cells #[.int .i64 s] 3) := ⟨_, rfl⟩
  have hb0 : Below w.heap.size w w0 := by rw [hw0]; exact (((Below.refl _ _).alloc (by simp <;> omega) _).alloc (by simp <;> omega) _)
  have H := Lib.hid (h.keep hb0)
  obtain ⟨h1, h2, h3⟩ := h.keep hb0
  obtain ⟨A, c, rfl, hlc, hm, hA⟩ := h1
  obtain ⟨A2, c2, rfl, _, hm2, _⟩ := h2
  obtain ⟨A3, c3, rfl, _, hm3, _⟩ := h3
  unfold maxLen at hm hm2 hm3
  have p00 : ∀ W, Since w0 W → W.cell? ⟨w.heap.size, 0, none⟩ = some (.slice A n.ends.length c) := have_cell (by rw [hw0]; simp)
  have p01 : ∀ W, Since w0 W → W.cell? ⟨w.heap.size, 1, none⟩ = some (.slice A2 n.ids.length c2) := have_cell (by rw [hw0]; simp)
  have p02 : ∀ W, Since w0 W → W.cell? ⟨w.heap.size, 2, none⟩ = some (.slice A3 n.inputs.length c3) := have_cell (by rw [hw0]; simp)
  have p10 : ∀ W, Since w0 W → W.cell? ⟨w.heap.size + 1, 0, none⟩ = some (.int .i64 s) := have_cell (by rw [hw0]; simp)
  have Hb0 := Lib.hid hb0
  have Hw0 := Lib.hid hw0
  have HA := Lib.hid hA
  clear hA h
  clear hb0 hw0
  go_enter Try.func27, Try.ntmps27
  go_upto_region 1 with (fail)
  rw [← Hw0.out]
  refine wp_region_flow0 12 (Since w0) (since_refl _) ?_
  simp only [List.take_succ_cons, List.take_zero, List.drop_succ_cons, List.drop_zero]
  refine flow_val (v := ?_) rfl ?_ ?_; rotate_left; (intro W hW; go_simp; with_reducible rfl)
  simp only [Act.put, List.setIfInBounds_toArray, List.set_cons_succ, List.set_cons_zero]
  refine flow_op ?_ rfl ?_ ?_; rotate_left; (intro W hW; unfold Gives; go_simp; (with_reducible refine (isNetwork_any _ _ _ n W (H.out.keep hW.below) (szNet_ids hsz)).mono ?_); rintro e W' ⟨rfl, hb3⟩; first | (refine ⟨?_, Since.trans hW hb3⟩; with_reducible rfl) | (subst hb3; refine ⟨?_, hW⟩; with_reducible rfl))
  simp only [Act.put, List.setIfInBounds_toArray, List.set_cons_succ, List.set_cons_zero]
  refine flow_val (v := ?_) rfl ?_ ?_; rotate_left; (intro W hW; go_simp; with_reducible rfl)
  simp only [Act.put, List.setIfInBounds_toArray, List.set_cons_succ, List.set_cons_zero]
  refine flow_val (v := ?_) rfl ?_ ?_; rotate_left; (intro W hW; go_simp; with_reducible rfl)
  simp only [Act.put, List.setIfInBounds_toArray, List.set_cons_succ, List.set_cons_zero]
  refine flow_gval (v := ?_) rfl rfl ?_ ?_; rotate_left; (intro hb W hW; go_simp; with_reducible rfl)
  simp only [Act.put, List.setIfInBounds_toArray, List.set_cons_succ, List.set_cons_zero]
  refine flow_gop (v := ?_) rfl rfl ?_ ?_; rotate_left; (intro hb W hW; unfold Gives; go_simp; (with_reducible refine (isScheme_b _ W).mono ?_); rintro e W' ⟨rfl, hb3⟩; first | (refine ⟨?_, Since.trans hW hb3⟩; with_reducible rfl) | (subst hb3; refine ⟨?_, hW⟩; with_reducible rfl))
  simp only [Act.put, List.setIfInBounds_toArray, List.set_cons_succ, List.set_cons_zero]
  refine flow_gval (v := ?_) rfl rfl ?_ ?_; rotate_left; (intro hb W hW; go_simp; with_reducible rfl)
  simp only [Act.put, List.setIfInBounds_toArray, List.set_cons_succ, List.set_cons_zero]
  first | refine flow_or rfl rfl ?_ | (refine flow_val (v := ?_) rfl ?_ ?_; rotate_left; (intro W hW; go_simp; with_reducible rfl))
  simp only [Act.put, List.setIfInBounds_toArray, List.set_cons_succ, List.set_cons_zero]
  refine flow_val (v := ?_) rfl ?_ ?_; rotate_left; (intro W hW; go_simp; with_reducible rfl)
  simp only [Act.put, List.setIfInBounds_toArray, List.set_cons_succ, List.set_cons_zero]
  refine flow_gval (v := ?_) rfl rfl ?_ ?_; rotate_left; (intro hb W hW; go_simp; with_reducible rfl)
  simp only [Act.put, List.setIfInBounds_toArray, List.set_cons_succ, List.set_cons_zero]
  refine flow_gval (v := ?_) rfl rfl ?_ ?_; rotate_left; (intro hb W hW; go_simp; with_reducible rfl)
  simp only [Act.put, List.setIfInBounds_toArray, List.set_cons_succ, List.set_cons_zero]
  first | refine flow_or rfl rfl ?_ | (refine flow_val (v := ?_) rfl ?_ ?_; rotate_left; (intro W hW; go_simp; with_reducible rfl))
  simp only [Act.put, List.setIfInBounds_toArray, List.set_cons_succ, List.set_cons_zero]
  intro W hW
  cases hg : (!netOk n || !inB 1 5 s || decide (most < 0))
  · simp only [Bool.or_eq_false_iff, Bool.not_eq_false'] at hg
    have hn2 : 1 ≤ n.ends.length ∧ n.ends.length ≤ 40 := netOk_len hg.1.1
    have hm0 : 0 ≤ most := by have := hg.2; simp at this; exact this
    have e1 : fnExactCountAccepted_r1 n s most = (listsB most n.ends.length).isSome := by rw [ask_bool, hg.1.1, hg.1.2, hg.2]; simp
    have Hg := Lib.hid hg
    have E1 := Lib.hid e1
    obtain ⟨mo, rfl⟩ := Int.eq_ofNat_of_zero_le hm0
    have hm1 := hmb.2
    obtain ⟨bc, hbc⟩ : ∃ bc, bc = W.heap.size := ⟨_, rfl⟩
    obtain ⟨w2, hw2⟩ : ∃ w2, w2 = W.alloc (.cells #[.int .i64 0] 3) := ⟨_, rfl⟩
    have Hi : Hid (I1 w2 bc 0) := by rw [hw2, hbc]; exact I1.new W 0
    have hbw : w0.heap.size ≤ bc := by rw [hbc]; exact (Since.below hW).size
    have hs2 : Since w0 w2 := by rw [hw2]; exact since_alloc _ hW
    have hlt : bc < w2.heap.size := Hi.out.lt
    have Hs2 := Lib.hid hs2
    have Hbw := Lib.hid hbw
    have hn2a := hn2.1
    have Hw2 := Lib.hid hw2
    have Hbc := Lib.hid hbc
    clear hg e1 hm0 hmb hn2 hbw hw2 hbc
    go_upto_region 4 with (fail)
    rw [← Hbc.out, ← Hw2.out]
    clear hW
    go_wp2_with fail
    refine (eachLabeling_any _ _ _ n mo 74 #[.pointer (some ⟨bc, 0, none⟩), .pointer (some ⟨w.heap.size, 0, none⟩), .pointer (some ⟨w.heap.size + 1, 0, none⟩)] w2 (fun g k X => Since w0 X ∧ I1 X bc (cntAcc n s (mo + 1) k)) (H.out.keep Hs2.out.below) hn2a (netOk_len Hg.out.1.1).2 (by omega) hm1 countC_enters
      (fun g X hg hb => ⟨Hs2.out.trans hb, Hi.out.since hb⟩)
      (fun g k X X' hg hJ ho => ⟨Only.since hJ.1 ho (fun j hj => by simp at hj; subst hj; have := Hs2.out.below.size; omega), hJ.2.only ho (by simp; omega)⟩)
      (fun c hc g k X vl hk hg hJ ho hob => ?_)).mono ?_
    · have hb := lists_bd (by omega) _ hc
      have hmo : mo < 20000 := by have := hb.2.2 (by omega); omega
      have hs := hJ.1
      have hcl := cntAcc_le n s (mo + 1) k
      rw [Int.toNat_natCast] at ho
      refine (countC_any _ _ _ _ n s (listB (mo + 1) n.ends.length k) (cntAcc n s (mo + 1) k) bc w.heap.size (w.heap.size + 1) X (H.out.keep hs.below) ho.ints (labOk_listB Hg.out.1.1 Hg.out.1.2 hmo k) hJ.2 (by omega) (by omega) _ rfl (p00 X hs) (p01 X hs) (p02 X hs) (p10 X hs)).mono ?_
      rintro e X' ⟨u, rfl, hi, hon⟩
      refine ⟨u, rfl, ⟨Only.since hs hon (fun j hj => by simp at hj; subst hj; exact Hbw.out), ?_⟩, [bc], hon, fun j hj => by simp at hj; subst hj; exact hlt⟩
      have e : cntAcc n s (mo + 1) (k + 1) = cntAcc n s (mo + 1) k + if (rejL n s (listB (mo + 1) n.ends.length k)).length = 0 then 1 else 0 := rfl
      rw [e]
      split at hi <;> rename_i hz
      · rw [if_pos hz]; simpa using hi
      · rw [if_neg hz]; simpa using hi
    · rintro e W3 ⟨rfl, hsome, hnone⟩
      cases hL : listsB (mo : Int) n.ends.length with
      | none =>
        have Hr := Lib.hid (show fnExactCountAccepted_r1 n s mo = false by rw [E1.out, hL]; rfl)
        have Hd := Lib.hid (show fnExactCountAccepted_r0 n s mo = 0 by unfold fnExactCountAccepted_r0; rw [if_neg (by rw [Hr.out]; simp)])
        have Hb := Lib.hid (hnone hL)
        clear hsome hnone hL
        go_wp2
        go_ret2
        exact ⟨tupib Hd.out.symm Hr.out.symm, Since.after Hb0.out (Hs2.out.trans Hb.out)⟩
      | some c =>
        obtain ⟨g, -, hs3, hi3⟩ := hsome c hL
        have hb := lists_bd (by omega) _ hL
        obtain ⟨cn, rfl⟩ := Int.eq_ofNat_of_zero_le (show 0 ≤ c by omega)
        have Hr := Lib.hid (show fnExactCountAccepted_r1 n s mo = true by rw [E1.out, hL]; rfl)
        have Hd := Lib.hid (show fnExactCountAccepted_r0 n s mo = (cntAcc n s (mo + 1) cn : Int) by unfold fnExactCountAccepted_r0; rw [if_pos Hr.out]; simp [listsI, hL])
        have Hs3 := Lib.hid hs3
        have cz := hi3.cells.1
        rw [Int.toNat_natCast] at cz
        clear hsome hnone hL hi3 hs3
        go_wp2
        go_ret2
        exact ⟨tupib Hd.out.symm Hr.out.symm, Since.after Hb0.out Hs3.out⟩
  · have hr : fnExactCountAccepted_r1 n s most = false := by
      rw [ask_bool]
      revert hg
      cases netOk n <;> cases inB 1 5 s <;> cases decide (most < 0) <;> simp
    have Hr := Lib.hid hr
    have Hd := Lib.hid (show fnExactCountAccepted_r0 n s most = 0 by unfold fnExactCountAccepted_r0; rw [if_neg (by rw [hr]; simp)])
    have HW := Lib.hid hW
    clear hg hr hW
    go_wp2
    go_ret2
    exact ⟨tupib Hd.out.symm Hr.out.symm, Since.after Hb0.out HW.out⟩
end Go.Proofs.Ytbfoefkfcnaimaa
