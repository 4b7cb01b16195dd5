import Derived.Test.YtbfoefkfcnaimaaOdo1
namespace Go.Proofs.Ytbfoefkfcnaimaa
open Go.RowKit
def askB (n : Net) (s most : Int) : Bool := netOk n && inB 1 5 s && inB 0 999999999999 most
theorem atAsked_any (ve vi vn : Value) (n : Net) (s most : Int) (w : World) (h : NetIn w ve vi vn n) :
    Calls Try.prog 68 #[.agg #[ve, vi, vn], .int .i64 s, .int .i64 most] w fun e w' => e = .returned (.bool (askB n s most)) ∧ Below w.heap.size w w' := by
  obtain ⟨w0, hw0⟩ : ∃ w0, w0 = (w).alloc (.cells #[ve, vi, vn] 31) := ⟨_, rfl⟩
  have hb0 : Below w.heap.size w w0 := by rw [hw0]; exact ((Below.refl _ _).alloc (by simp) _)
  have H := Lib.hid (h.keep hb0)
  obtain ⟨h1, h2, h3⟩ := h.keep hb0
  obtain ⟨A, c, rfl, hlc, hm, hA⟩ := h1
  obtain ⟨A2, c2, rfl, _, hm2, _⟩ := h2
  obtain ⟨A3, c3, rfl, _, hm3, _⟩ := h3
  unfold maxLen at hm hm2 hm3
  have p00 : ∀ W, Since w0 W → W.cell? ⟨w.heap.size, 0, none⟩ = some (.slice A n.ends.length c) := have_cell (by rw [hw0]; simp)
  have p01 : ∀ W, Since w0 W → W.cell? ⟨w.heap.size, 1, none⟩ = some (.slice A2 n.ids.length c2) := have_cell (by rw [hw0]; simp)
  have p02 : ∀ W, Since w0 W → W.cell? ⟨w.heap.size, 2, none⟩ = some (.slice A3 n.inputs.length c3) := have_cell (by rw [hw0]; simp)
  have Hb0 := Lib.hid hb0
  have Hw0 := Lib.hid hw0
  have HA := Lib.hid hA
  clear hA h
  clear hb0 hw0
  go_enter Try.func68, Try.ntmps68
  go_upto_region 1 with (fail)
  rw [← Hw0.out]
  refine wp_region_flow0 11 (Since w0) (since_refl _) ?_
  simp only [List.take_succ_cons, List.take_zero, List.drop_succ_cons, List.drop_zero]
  refine flow_val (v := ?_) rfl ?_ ?_; rotate_left; (intro W hW; go_simp; with_reducible rfl)
  simp only [Act.put, List.setIfInBounds_toArray, List.set_cons_succ, List.set_cons_zero]
  refine flow_op ?_ rfl ?_ ?_; rotate_left; (intro W hW; unfold Gives; go_simp; (with_reducible refine (neGood_any _ _ _ n W (H.out.keep hW.below)).mono ?_); rintro e W' ⟨rfl, hb3⟩; first | (refine ⟨?_, Since.trans hW hb3⟩; with_reducible rfl) | (subst hb3; refine ⟨?_, hW⟩; with_reducible rfl))
  simp only [Act.put, List.setIfInBounds_toArray, List.set_cons_succ, List.set_cons_zero]
  refine flow_val (v := ?_) rfl ?_ ?_; rotate_left; (intro W hW; go_simp; with_reducible rfl)
  simp only [Act.put, List.setIfInBounds_toArray, List.set_cons_succ, List.set_cons_zero]
  refine flow_gval (v := ?_) rfl rfl ?_ ?_; rotate_left; (intro hb W hW; go_simp; with_reducible rfl)
  simp only [Act.put, List.setIfInBounds_toArray, List.set_cons_succ, List.set_cons_zero]
  refine flow_gop (v := ?_) rfl rfl ?_ ?_; rotate_left; (intro hb W hW; unfold Gives; go_simp; (with_reducible refine (plScheme_b _ W).mono ?_); rintro e W' ⟨rfl, hb3⟩; first | (refine ⟨?_, Since.trans hW hb3⟩; with_reducible rfl) | (subst hb3; refine ⟨?_, hW⟩; with_reducible rfl))
  simp only [Act.put, List.setIfInBounds_toArray, List.set_cons_succ, List.set_cons_zero]
  first | refine flow_and rfl rfl ?_ | (refine flow_val (v := ?_) rfl ?_ ?_; rotate_left; (intro W hW; go_simp; with_reducible rfl))
  simp only [Act.put, List.setIfInBounds_toArray, List.set_cons_succ, List.set_cons_zero]
  refine flow_val (v := ?_) rfl ?_ ?_; rotate_left; (intro W hW; go_simp; with_reducible rfl)
  simp only [Act.put, List.setIfInBounds_toArray, List.set_cons_succ, List.set_cons_zero]
  refine flow_gval (v := ?_) rfl rfl ?_ ?_; rotate_left; (intro hb W hW; go_simp; with_reducible rfl)
  simp only [Act.put, List.setIfInBounds_toArray, List.set_cons_succ, List.set_cons_zero]
  refine flow_gop (v := ?_) rfl rfl ?_ ?_; rotate_left; (intro hb W hW; unfold Gives; go_simp; (with_reducible refine (plLabel_b _ W).mono ?_); rintro e W' ⟨rfl, hb3⟩; first | (refine ⟨?_, Since.trans hW hb3⟩; with_reducible rfl) | (subst hb3; refine ⟨?_, hW⟩; with_reducible rfl))
  simp only [Act.put, List.setIfInBounds_toArray, List.set_cons_succ, List.set_cons_zero]
  first | refine flow_and rfl rfl ?_ | (refine flow_val (v := ?_) rfl ?_ ?_; rotate_left; (intro W hW; go_simp; with_reducible rfl))
  simp only [Act.put, List.setIfInBounds_toArray, List.set_cons_succ, List.set_cons_zero]
  refine flow_val (v := ?_) rfl ?_ ?_; rotate_left; (intro W hW; go_simp; with_reducible rfl)
  simp only [Act.put, List.setIfInBounds_toArray, List.set_cons_succ, List.set_cons_zero]
  intro W hW
  have HW := Lib.hid hW
  clear hW
  go_wp2
  go_ret
  exact ⟨rfl, Since.after Hb0.out HW.out⟩
def listsI (most : Int) (n : Nat) : Int := (listsB most n).getD (-1)
theorem listsI_neg {most : Int} (h0 : 0 ≤ most) (n : Nat) : decide (listsI most n < 0) = !(listsB most n).isSome := by
  unfold listsI
  cases h : listsB most n with
  | none => rfl
  | some c => have := lists_bd h0 n h; simp; omega
set_option maxRecDepth 100000 in
set_option maxHeartbeats 4000000 in
theorem atLists_any (ve vi vn : Value) (n : Net) (most : Int) (w : World) (h : NetIn w ve vi vn n) (hm0 : 0 ≤ most) (hm1 : most ≤ 999999999999) (hn2 : n.ends.length ≤ 40) :
    Calls Try.prog 69 #[.agg #[ve, vi, vn], .int .i64 most] w fun e w' => e = .returned (.int .i64 (listsI most n.ends.length)) ∧ Below w.heap.size w w' := by
  obtain ⟨w0, hw0⟩ : ∃ w0, w0 = (w).alloc (.cells #[ve, vi, vn] 31) := ⟨_, rfl⟩
  have hb0 : Below w.heap.size w w0 := by rw [hw0]; exact ((Below.refl _ _).alloc (by simp) _)
  have H := Lib.hid (h.keep hb0)
  obtain ⟨h1, h2, h3⟩ := h.keep hb0
  obtain ⟨A, c, rfl, hlc, hm, hA⟩ := h1
  obtain ⟨A2, c2, rfl, _, hm2, _⟩ := h2
  obtain ⟨A3, c3, rfl, _, hm3, _⟩ := h3
  unfold maxLen at hm hm2 hm3
  have p00 : ∀ W, Since w0 W → W.cell? ⟨w.heap.size, 0, none⟩ = some (.slice A n.ends.length c) := have_cell (by rw [hw0]; simp)
  have p01 : ∀ W, Since w0 W → W.cell? ⟨w.heap.size, 1, none⟩ = some (.slice A2 n.ids.length c2) := have_cell (by rw [hw0]; simp)
  have p02 : ∀ W, Since w0 W → W.cell? ⟨w.heap.size, 2, none⟩ = some (.slice A3 n.inputs.length c3) := have_cell (by rw [hw0]; simp)
  have Hb0 := Lib.hid hb0
  have Hw0 := Lib.hid hw0
  have HA := Lib.hid hA
  clear hA h
  clear hb0 hw0
  obtain ⟨lim, hlim⟩ : ∃ x, listsB most n.ends.length = x := ⟨_, rfl⟩
  have Hlim := Lib.hid hlim
  unfold listsI
  rw [hlim]
  clear hlim
  go_enter Try.func69, Try.ntmps69
  go_upto_region 1 with (fail)
  rw [← Hw0.out]
  have hs0 : Since w0 w0 := since_refl _
  go_wp2
  go_loopw [5, 9] (fun c i wr => ∃ (k : Nat) (cc : Int), k ≤ n.ends.length ∧ i = .int .i64 k ∧ c = .int .i64 cc ∧ listsB most k = some cc ∧ Since w0 wr) (fun _ i _ => n.ends.length - (intOf i).toNat)
  case atStart => exact ⟨0, 1, Nat.zero_le _, rfl, rfl, rfl, hs0⟩
  case round =>
    obtain ⟨k, cc, hk, rfl, rfl, hcc, hs⟩ := hrel
    have hcb := lists_bd hm0 k hcc
    have Hcc := Lib.hid hcc
    have Hs := Lib.hid hs
    clear hcc hs hs0
    by_cases hlt : k < n.ends.length
    · by_cases hbig : 20000 ≤ most
      · have Hno : Hid (lim = none) := by
          rw [← Hlim.out]
          exact lists_more (i := k + 1) (by rw [listsB, Hcc.out]; simp [hbig]) (by omega)
        have hg : decide (20000 ≤ most) = true := by simpa using hbig
        clear hcb
        go_wp2
        go_ret
        exact ⟨by rw [Hno.out]; rfl, Since.after Hb0.out Hs.out⟩
      · have hmb := mul_bd ⟨hcb.1, hcb.2.1⟩ hm0 (by omega)
        have hg : decide (20000 ≤ most) = false := by simpa using hbig
        have m1 : IntKind.i64.wrap (most + 1) = most + 1 := wr64 _ (by omega) (by omega)
        have m2 : IntKind.i64.wrap (cc * (most + 1)) = cc * (most + 1) := wr64 _ (by omega) (by omega)
        have Hb := Lib.hid hbig
        generalize hpr : cc * (most + 1) = pr at m2 hmb
        have Hpr := Lib.hid hpr
        clear hcb hbig
        by_cases hp : 20000 < pr
        · have Hno : Hid (lim = none) := by
            rw [← Hlim.out]
            exact lists_more (i := k + 1) (by rw [listsB, Hcc.out]; simp only; rw [Hpr.out, if_pos (.inr hp)]) (by omega)
          have hg2 : decide (20000 < pr) = true := by simpa using hp
          go_wp2
          go_ret
          exact ⟨by rw [Hno.out]; rfl, Since.after Hb0.out Hs.out⟩
        · have Hnx : Hid (listsB most (k + 1) = some pr) := by
            show _ = _
            rw [listsB, Hcc.out]
            simp only
            rw [Hpr.out, if_neg (by have := Hb.out; omega)]
          have hg2 : decide (20000 < pr) = false := by simpa using hp
          go_wp2
          go_roundw
          case rel => exact ⟨k + 1, pr, by omega, by go_num, rfl, Hnx.out, Hs.out⟩
          case measure => simp [intOf]; omega
    · obtain rfl : k = n.ends.length := by omega
      have Hl2 : Hid (lim = some cc) := by rw [← Hlim.out]; exact Hcc.out
      go_wp2
      go_ret
      exact ⟨by rw [Hl2.out]; rfl, Since.after Hb0.out Hs.out⟩
set_option maxRecDepth 100000 in
set_option maxHeartbeats 4000000 in
theorem atList_any (ve vi vn : Value) (n : Net) (mo k : Nat) (w : World) (h : NetIn w ve vi vn n) (hm1 : mo < 20000) (hk : k ≤ 20000) (hn2 : n.ends.length ≤ 40) :
    Calls Try.prog 70 #[.agg #[ve, vi, vn], .int .i64 mo, .int .i64 k] w fun e w' => ∃ u, e = .returned u ∧ Own w' w.heap.size u (listB (mo + 1) n.ends.length k) ∧ Below w.heap.size w w' := by
  obtain ⟨w0, hw0⟩ : ∃ w0, w0 = (w).alloc (.cells #[ve, vi, vn] 31) := ⟨_, rfl⟩
  have hb0 : Below w.heap.size w w0 := by rw [hw0]; exact ((Below.refl _ _).alloc (by simp) _)
  have H := Lib.hid (h.keep hb0)
  obtain ⟨h1, h2, h3⟩ := h.keep hb0
  obtain ⟨A, c, rfl, hlc, hm, hA⟩ := h1
  obtain ⟨A2, c2, rfl, _, hm2, _⟩ := h2
  obtain ⟨A3, c3, rfl, _, hm3, _⟩ := h3
  unfold maxLen at hm hm2 hm3
  have p00 : ∀ W, Since w0 W → W.cell? ⟨w.heap.size, 0, none⟩ = some (.slice A n.ends.length c) := have_cell (by rw [hw0]; simp)
  have p01 : ∀ W, Since w0 W → W.cell? ⟨w.heap.size, 1, none⟩ = some (.slice A2 n.ids.length c2) := have_cell (by rw [hw0]; simp)
  have p02 : ∀ W, Since w0 W → W.cell? ⟨w.heap.size, 2, none⟩ = some (.slice A3 n.inputs.length c3) := have_cell (by rw [hw0]; simp)
  have Hb0 := Lib.hid hb0
  have Hw0 := Lib.hid hw0
  have HA := Lib.hid hA
  clear hA h
  clear hb0 hw0
  obtain ⟨ds, hds⟩ : ∃ ds, ds = digs (mo + 1) n.ends.length k := ⟨_, rfl⟩
  have Hres : Hid (listB (mo + 1) n.ends.length k = labs ds) := by rw [hds]; exact rfl
  have Hds := Lib.hid hds
  have hs0 : Since w0 w0 := since_refl _
  have m1 : IntKind.i64.wrap ((n.ends.length : Int) - 1) = n.ends.length - 1 := wr64 _ (by omega) (by omega)
  have m2 : IntKind.i64.wrap ((mo : Int) + 1) = mo + 1 := wr64 _ (by omega) (by omega)
  clear hds
  go_enter Try.func70, Try.ntmps70
  go_upto_region 1 with (fail)
  rw [← Hw0.out]
  go_wp2_with (at_make; refine mk_ints _ rfl _ _ rfl _ _ n.ends.length rfl rfl rfl rfl (by omega) ?_; intro w1 ho1 hb1 hz1)
  obtain ⟨g, hg⟩ : ∃ g, g = w0.heap.size := ⟨_, rfl⟩
  have Hgw : Hid (w.heap.size ≤ g) := by rw [hg]; exact Hb0.out.size
  have Hg := Lib.hid hg
  rw [← hg] at ho1 hz1 ⊢
  have Ho1 := Lib.hid ho1
  have Hs1 : Hid (Since w0 w1) := hb1
  clear ho1 hb1 hz1 hg hs0
  go_wp2
  go_loopw [2, 8] (fun qv v wr => ∃ (i q : Nat) (pre : List Nat), i ≤ n.ends.length ∧ pre.length = i ∧ q ≤ 20000 ∧ v = .int .i64 ((n.ends.length : Int) - 1 - i) ∧ qv = .int .i64 q ∧ ds = pre ++ digs (mo + 1) (n.ends.length - i) q ∧ Own wr w0.heap.size (.slice (some ⟨g, 0, none⟩) n.ends.length n.ends.length) (labs (pre ++ List.replicate (n.ends.length - i) 0)) ∧ Since w0 wr) (fun _ v _ => ((intOf v) + 1).toNat)
  case atStart => exact ⟨0, k, [], Nat.zero_le _, rfl, hk, by simp, rfl, by simpa using Hds.out, by have := Ho1.out; rw [Hg.out] at this; simpa [labs, Hg.out] using this, Hs1.out⟩
  case round =>
    obtain ⟨i, q, pre, hi, hpl, hq, rfl, rfl, hdd, ho, hs⟩ := hrel
    have Hdd := Lib.hid hdd
    have Ho := Lib.hid ho
    have Hs := Lib.hid hs
    have Hpl := Lib.hid hpl
    clear hdd ho hs hpl
    by_cases hil : i < n.ends.length
    · obtain ⟨p, hp⟩ : ∃ p, p = n.ends.length - 1 - i := ⟨_, rfl⟩
      have ep : (n.ends.length : Int) - 1 - i = (p : Int) := by omega
      rw [ep]
      have hpn : p < n.ends.length := by omega
      obtain ⟨y, hy⟩ := getx (labs (pre ++ List.replicate (n.ends.length - i) 0)) p (by have := Hpl.out; simp [labs]; omega)
      have cz := Ho.out.cell hy
      have fz := Ho.out.free p
      have m3 : ((q : Int)).tmod ((mo : Int) + 1) = ((q % (mo + 1) : Nat) : Int) := by rw [Int.tmod_eq_emod_of_nonneg (by omega)]; simp
      have m4 : ((q : Int)).tdiv ((mo : Int) + 1) = ((q / (mo + 1) : Nat) : Int) := by rw [Int.tdiv_eq_ediv_of_nonneg (by omega)]; simp
      have m5 : IntKind.i64.wrap ((p : Int) - 1) = p - 1 := wr64 _ (by omega) (by omega)
      have hq2 : q / (mo + 1) ≤ 20000 := Nat.le_trans (Nat.div_le_self _ _) hq
      have hq3 : q % (mo + 1) ≤ 20000 := Nat.le_trans (Nat.mod_le _ _) hq
      have hnz : ((mo : Int) + 1 == 0) = false := by rw [beq_eq_false_iff_ne]; omega
      obtain ⟨qd, hqd⟩ : ∃ x, x = q / (mo + 1) := ⟨_, rfl⟩
      obtain ⟨qm, hqm⟩ : ∃ x, x = q % (mo + 1) := ⟨_, rfl⟩
      rw [← hqd] at m4 hq2
      rw [← hqm] at m3 hq3
      have m6 : IntKind.i64.wrap (qd : Int) = qd := wr64 _ (by omega) (by omega)
      have m7 : IntKind.i64.wrap (qm : Int) = qm := wr64 _ (by omega) (by omega)
      have Hset : Hid ((labs (pre ++ List.replicate (n.ends.length - i) 0)).set p (qm : Int) = labs ((pre ++ [qm]) ++ List.replicate (n.ends.length - (i + 1)) 0)) := by
        have hl : (pre ++ List.replicate (n.ends.length - i) 0).length = n.ends.length := by have := Hpl.out; simp; omega
        have h1 := labs_set (pre ++ List.replicate (n.ends.length - i) 0) i qm (by rw [hl]; exact hil)
        rw [hl, ← hp] at h1
        show _ = _
        rw [h1, List.set_append_right _ _ (by rw [Hpl.out]; exact Nat.le_refl _), Hpl.out, Nat.sub_self, show n.ends.length - i = (n.ends.length - (i + 1)) + 1 by omega, List.replicate_succ, List.set_cons_zero, List.append_assoc]
        rfl
      have Hdn : Hid (ds = (pre ++ [qm]) ++ digs (mo + 1) (n.ends.length - (i + 1)) qd) := by
        show _ = _
        rw [Hdd.out, show n.ends.length - i = (n.ends.length - (i + 1)) + 1 by omega, digs, ← hqm, ← hqd, List.append_assoc]
        rfl
      have Hp := Lib.hid hp
      clear hy hp ep hqd hqm
      go_wp2
      go_roundw
      case rel =>
        refine ⟨i + 1, qd, pre ++ [qm], by omega, by have := Hpl.out; simp; omega, hq2, ?_, rfl, Hdn.out, ?_, Below.setCell Hs.out (by show w0.heap.size ≤ g; rw [Hg.out]; exact Nat.le_refl _) _⟩
        · have := Hp.out; congr 1 <;> omega
        · rw [← Hset.out]; exact Ho.out.set (k := p) (qm : Int)
      case measure => have := Hp.out; simp [intOf] <;> omega
    · obtain rfl : i = n.ends.length := by omega
      have ep : (n.ends.length : Int) - 1 - (n.ends.length : Nat) = -1 := by omega
      rw [ep]
      have Hend : Hid (labs (pre ++ List.replicate (n.ends.length - n.ends.length) 0) = labs ds) := by
        show _ = _
        have := Hdd.out
        rw [Nat.sub_self] at this ⊢
        rw [this]
        simp [digs]
      go_wp2
      go_ret
      exact ⟨_, rfl, by rw [Hres.out, ← Hend.out]; exact Ho.out.mono Hb0.out.size, Since.after Hb0.out Hs.out⟩
end Go.Proofs.Ytbfoefkfcnaimaa
