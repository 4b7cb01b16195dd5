/- Parts of the proof: walks of functions and plain laws. -/
import Derived.Test.YtomnaabadohecaaP17
import Derived.Test.YtomnaabadohecaaP11
import Derived.Test.YtomnaabadohecaaP4
namespace Go.Proofs.Ytomnaabadohecaa
open Go.RowKit
/-! the girth; the property: the reference -/
set_option maxRecDepth 100000 in
set_option maxHeartbeats 8000000 in
theorem meGirth_any (ve vi vn : Value) (n : Net) (w : World) (h : NetIn w ve vi vn n) (hn : netOk n = true) :
    Calls Try.prog 54 #[.agg #[ve, vi, vn]] w fun e w' => e = .returned (.int .i64 (girthB n)) ∧ Below w.heap.size w w' := by
  have hnl := netOk_len hn
  have hnl1 := hnl.1
  have hnl2 := hnl.2
  have Hn := Lib.hid hn
  obtain ⟨w0, hw0⟩ : ∃ w0, w0 = (w).alloc (.cells #[ve, vi, vn] 31) := ⟨_, rfl⟩
  have hb0 : Below w.heap.size w w0 := by rw [hw0]; exact ((Below.refl _ _).alloc (by simp) _)
  have H := Lib.hid (h.keep hb0)
  obtain ⟨h1, h2, h3⟩ := h.keep hb0
  obtain ⟨A, c, rfl, hlc, hm, hA⟩ := h1
  obtain ⟨A2, c2, rfl, _, hm2, _⟩ := h2
  obtain ⟨A3, c3, rfl, _, hm3, _⟩ := h3
  unfold maxLen at hm hm2 hm3
  have p00 : ∀ W, Since w0 W → W.cell? ⟨w.heap.size, 0, none⟩ = some (.slice A n.ends.length c) := have_cell (by rw [hw0]; simp)
  have p01 : ∀ W, Since w0 W → W.cell? ⟨w.heap.size, 1, none⟩ = some (.slice A2 n.ids.length c2) := have_cell (by rw [hw0]; simp)
  have p02 : ∀ W, Since w0 W → W.cell? ⟨w.heap.size, 2, none⟩ = some (.slice A3 n.inputs.length c3) := have_cell (by rw [hw0]; simp)
  have Hb0 := Lib.hid hb0
  have Hw0 := Lib.hid hw0
  have HA := Lib.hid hA
  clear hA h
  clear hb0 hw0
  have hs0 : Since w0 w0 := since_refl _
  obtain ⟨rb, hrb⟩ : ∃ rb, girthB n = rb := ⟨_, rfl⟩
  have Hrb : Hid (gTo n n.ends.length = rb) := hrb
  rw [hrb]
  clear hn hnl hrb
  go_enter Try.func54, Try.ntmps54
  go_upto_region 1 with (fail)
  rw [← Hw0.out]
  go_wp2
  go_loopw [3, 11] (fun o i wr => ∃ k : Nat, k ≤ n.ends.length ∧ i = .int .i64 k ∧ o = .int .i64 (gTo n k) ∧ Since w0 wr) (fun _ i _ => n.ends.length - (intOf i).toNat)
  case atStart => exact ⟨0, Nat.zero_le _, rfl, rfl, hs0⟩
  case round =>
    obtain ⟨k, hk, rfl, rfl, hsr⟩ := hrel
    have Hs := Lib.hid hsr
    clear hs0
    obtain ⟨o0, ho0⟩ : ∃ o0, gTo n k = o0 := ⟨_, rfl⟩
    have Ho0 := Lib.hid ho0
    rw [ho0]
    clear ho0
    by_cases hlt : k < n.ends.length
    · obtain ⟨es, hes⟩ := getx n.ends k hlt
      have hrow := netOk_row Hn.out hes
      have hes6 := hrow.1
      have hgd : n.ends.getD k [] = es := getD_of hes
      obtain ⟨b, offr, cr, ur, hA1, hkr, hc1, hro⟩ := row_at H.out.es hes
      cases hA1
      obtain ⟨A1, z1, rfl, hz1, hz2, hA1⟩ := hro
      unfold maxLen at hz2
      have HA1 := Lib.hid hA1
      have r1 := lift_cell (have_cell hc1) Hs.out
      have q5 := r1 wr (since_refl _)
      have Hgd := Lib.hid hgd
      have m4 : IntKind.i64.wrap ((k : Int) + 1) = (k : Int) + 1 := wr64 _ (by omega) (by omega)
      clear hes hrow hc1 hA1 hgd
      go_wp2
      go_loopw [3, 20] (fun o i wq => ∃ j : Nat, j ≤ es.length ∧ i = .int .i64 j ∧ o = .int .i64 (gRow n k j o0) ∧ Since w0 wq) (fun _ i _ => es.length - (intOf i).toNat)
      case atStart => exact ⟨0, Nat.zero_le _, rfl, rfl, Hs.out⟩
      case round =>
        obtain ⟨j, hj, rfl, rfl, hsq⟩ := hrel
        have Hsq := Lib.hid hsq
        obtain ⟨o1, ho1⟩ : ∃ o1, gRow n k j o0 = o1 := ⟨_, rfl⟩
        have Hsu := gRow_succ n k j o0
        rw [ho1] at Hsu ⊢
        have HSu := Lib.hid Hsu
        have Ho1 := Lib.hid ho1
        clear Hsu ho1
        by_cases hlj : j < es.length
        · obtain ⟨⟨x1, x2⟩, hx⟩ := getx es j hlj
          obtain ⟨b1, off1, rfl, hd1, hd2⟩ := HA1.out j _ hx
          have t1 := have_cell hd1 wr Hsq.out
          have t2 := have_cell hd2 wr Hsq.out
          have hpf : portF n k j = (x1, x2) := by unfold portF; rw [Hgd.out]; exact getD_of hx
          have m3 : IntKind.i64.wrap ((j : Int) + 1) = (j : Int) + 1 := wr64 _ (by omega) (by omega)
          obtain ⟨w8, hw8⟩ : ∃ w8, w8 = wr.alloc (.cells #[.int .i64 x1, .int .i64 x2] 56) := ⟨_, rfl⟩
          have hs8 : Since w0 w8 := by rw [hw8]; exact since_alloc _ Hsq.out
          have Hw8 := Lib.hid hw8
          have d00 : w8.cell? ⟨wr.heap.size, 0, none⟩ = some (.int .i64 x1) := by rw [hw8]; simp
          have d11 : w8.cell? ⟨wr.heap.size, 1, none⟩ = some (.int .i64 x2) := by rw [hw8]; simp
          have Hs8 := Lib.hid hs8
          have Hpf := Lib.hid hpf
          have hav := avoid_bd Hn.out hlt (i := j) (by rw [Hgd.out]; exact hlj)
          obtain ⟨d, hd⟩ : ∃ d, avoidB n k j = d := ⟨_, rfl⟩
          rw [hd] at hav
          have Hd := Lib.hid hd
          have Hcall := Lib.hid (meAvoid_any _ _ _ n k j w8 (H.out.keep hs8.below) Hn.out hlt (by rw [Hgd.out]; exact hlj))
          clear hx hd1 hd2 hw8 hpf hd
          go_upto_region 8 with (fail)
          rw [← Hw8.out]
          clear t1 t2
          cases hg : eqE (x1, x2) ((k : Int), (j : Int))
          · have hgp : gPort n k o1 j = gStep o1 d := by unfold gPort; rw [Hpf.out, if_neg (by unfold eqE at hg; exact of_decide_eq_false hg), Hd.out]
            have Hgp := Lib.hid hgp
            have m5 : IntKind.i64.wrap (d + 1) = d + 1 := wr64 _ (by omega) (by omega)
            clear hgp hav
            go_wp2_with fail
            refine Hcall.out.mono ?_
            rw [Hd.out]
            rintro e w9 ⟨rfl, hb9⟩
            have Hs9 := Lib.hid (Hs8.out.after hb9)
            clear hb9 d00 d11 hs8 hsq
            go_upto_region 10 with (fail)
            refine wp_region_flow0 12 (Since w9) (since_refl _) ?_
            simp only [List.take_succ_cons, List.take_zero, List.drop_succ_cons, List.drop_zero]
            refine flow_val (v := ?_) rfl ?_ ?_; rotate_left; (intro W hW; go_simp; with_reducible rfl)
            simp only [Act.put, List.setIfInBounds_toArray, List.set_cons_succ, List.set_cons_zero]
            refine flow_val (v := ?_) rfl ?_ ?_; rotate_left; (intro W hW; go_simp; with_reducible rfl)
            simp only [Act.put, List.setIfInBounds_toArray, List.set_cons_succ, List.set_cons_zero]
            refine flow_val (v := ?_) rfl ?_ ?_; rotate_left; (intro W hW; go_simp; with_reducible rfl)
            simp only [Act.put, List.setIfInBounds_toArray, List.set_cons_succ, List.set_cons_zero]
            refine flow_gval (v := ?_) rfl rfl ?_ ?_; rotate_left; (intro hb; intro W hW; go_simp; with_reducible rfl)
            simp only [Act.put, List.setIfInBounds_toArray, List.set_cons_succ, List.set_cons_zero]
            refine flow_gval (v := ?_) rfl rfl ?_ ?_; rotate_left; (intro hb; intro W hW; go_simp; with_reducible rfl)
            simp only [Act.put, List.setIfInBounds_toArray, List.set_cons_succ, List.set_cons_zero]
            refine flow_gval (v := ?_) rfl rfl ?_ ?_; rotate_left; (intro hb; intro W hW; go_simp; with_reducible rfl)
            simp only [Act.put, List.setIfInBounds_toArray, List.set_cons_succ, List.set_cons_zero]
            refine flow_gval2 (v := ?_) rfl rfl ?_ ?_; rotate_left; (intro hb hb2; intro W hW; go_simp; with_reducible rfl)
            simp only [Act.put, List.setIfInBounds_toArray, List.set_cons_succ, List.set_cons_zero]
            refine flow_gval2 (v := ?_) rfl rfl ?_ ?_; rotate_left; (intro hb hb2; intro W hW; go_simp; with_reducible rfl)
            simp only [Act.put, List.setIfInBounds_toArray, List.set_cons_succ, List.set_cons_zero]
            refine flow_gval2 (v := ?_) rfl rfl ?_ ?_; rotate_left; (intro hb hb2; intro W hW; go_simp; with_reducible rfl)
            simp only [Act.put, List.setIfInBounds_toArray, List.set_cons_succ, List.set_cons_zero]
            refine flow_gval2 (v := ?_) rfl rfl ?_ ?_; rotate_left; (intro hb hb2; intro W hW; go_simp; with_reducible rfl)
            simp only [Act.put, List.setIfInBounds_toArray, List.set_cons_succ, List.set_cons_zero]
            refine flow_gor rfl rfl rfl ?_
            simp only [Act.put, List.setIfInBounds_toArray, List.set_cons_succ, List.set_cons_zero]
            first | refine flow_and rfl rfl ?_ | (refine flow_val (v := ?_) rfl ?_ ?_; rotate_left; (intro W hW; go_simp; with_reducible rfl))
            simp only [Act.put, List.setIfInBounds_toArray, List.set_cons_succ, List.set_cons_zero]
            intro W hW
            have HW := Lib.hid (Hs9.out.after hW)
            clear hW
            cases hgg : (decide (0 ≤ d) && ((o1 == 0) || decide (d + 1 < o1)))
            · have hst : gStep o1 d = o1 := by
                unfold gStep
                rw [if_neg]
                rintro ⟨h1, h2⟩
                rw [Bool.and_eq_false_iff] at hgg
                rcases hgg with h3 | h3
                · exact (of_decide_eq_false h3) h1
                · rw [Bool.or_eq_false_iff] at h3
                  rcases h2 with h4 | h4
                  · rw [h4] at h3; simp at h3
                  · exact (of_decide_eq_false h3.2) h4
              have Hst := Lib.hid hst
              clear hst
              go_wp2
              go_roundw
              case rel => exact ⟨j + 1, by omega, by first | rfl | go_num, by rw [HSu.out, Hgp.out, Hst.out], HW.out⟩
              case measure => simp [intOf]; omega
            · have hst : gStep o1 d = d + 1 := by
                unfold gStep
                rw [if_pos]
                rw [Bool.and_eq_true, Bool.or_eq_true] at hgg
                exact ⟨of_decide_eq_true hgg.1, hgg.2.elim (fun h => .inl (by simpa using h)) (fun h => .inr (of_decide_eq_true h))⟩
              have Hst := Lib.hid hst
              clear hst
              go_wp2
              go_roundw
              case rel => exact ⟨j + 1, by omega, by first | rfl | go_num, by rw [HSu.out, Hgp.out, Hst.out], HW.out⟩
              case measure => simp [intOf]; omega
          · have hgp : gPort n k o1 j = o1 := by unfold gPort; rw [Hpf.out, if_pos (by unfold eqE at hg; exact of_decide_eq_true hg)]
            have Hgp := Lib.hid hgp
            clear hgp hsq
            go_wp2
            go_roundw
            case rel => exact ⟨j + 1, by omega, by first | rfl | go_num, by rw [HSu.out, Hgp.out], Hs8.out⟩
            case measure => simp [intOf]; omega
        · obtain rfl : j = es.length := by omega
          have Hnx : Hid (gTo n (k + 1) = o1) := by show _ = _; rw [gTo_succ, Ho0.out, Hgd.out, Ho1.out]
          clear hsq hsr
          go_wp2
          go_roundw
          case rel => exact ⟨k + 1, by omega, by first | rfl | go_num, by rw [Hnx.out], Hsq.out⟩
          case measure => simp [intOf]; omega
    · obtain rfl : k = n.ends.length := by omega
      have hb : rb = o0 := by rw [← Hrb.out]; exact Ho0.out
      subst hb
      clear hsr
      go_wp2
      go_ret
      exact ⟨rfl, Since.after Hb0.out Hs.out⟩
set_option maxRecDepth 100000 in
set_option maxHeartbeats 4000000 in
theorem meForest_any (ve vi vn : Value) (n : Net) (w : World) (h : NetIn w ve vi vn n) (hn : netOk n = true) :
    Calls Try.prog 31 #[.agg #[ve, vi, vn]] w fun e w' => e = .returned (.bool (forB n)) ∧ Below w.heap.size w w' := by
  have Hn := Lib.hid hn
  obtain ⟨w0, hw0⟩ : ∃ w0, w0 = (w).alloc (.cells #[ve, vi, vn] 31) := ⟨_, rfl⟩
  have hb0 : Below w.heap.size w w0 := by rw [hw0]; exact ((Below.refl _ _).alloc (by simp) _)
  have H := Lib.hid (h.keep hb0)
  obtain ⟨h1, h2, h3⟩ := h.keep hb0
  obtain ⟨A, c, rfl, hlc, hm, hA⟩ := h1
  obtain ⟨A2, c2, rfl, _, hm2, _⟩ := h2
  obtain ⟨A3, c3, rfl, _, hm3, _⟩ := h3
  unfold maxLen at hm hm2 hm3
  have p00 : ∀ W, Since w0 W → W.cell? ⟨w.heap.size, 0, none⟩ = some (.slice A n.ends.length c) := have_cell (by rw [hw0]; simp)
  have p01 : ∀ W, Since w0 W → W.cell? ⟨w.heap.size, 1, none⟩ = some (.slice A2 n.ids.length c2) := have_cell (by rw [hw0]; simp)
  have p02 : ∀ W, Since w0 W → W.cell? ⟨w.heap.size, 2, none⟩ = some (.slice A3 n.inputs.length c3) := have_cell (by rw [hw0]; simp)
  have Hb0 := Lib.hid hb0
  have Hw0 := Lib.hid hw0
  have HA := Lib.hid hA
  clear hA h
  clear hb0 hw0
  have HE := Lib.hid (for_eq2 hn)
  clear hn
  go_enter Try.func31, Try.ntmps31
  go_upto_region 1 with (fail)
  rw [← Hw0.out]
  refine wp_region_flow0 9 (Since w0) (since_refl _) ?_
  simp only [List.take_succ_cons, List.take_zero, List.drop_succ_cons, List.drop_zero]
  refine flow_val (v := ?_) rfl ?_ ?_; rotate_left; (intro W hW; go_simp; with_reducible rfl)
  simp only [Act.put, List.setIfInBounds_toArray, List.set_cons_succ, List.set_cons_zero]
  refine flow_op ?_ rfl ?_ ?_; rotate_left; (intro W hW; unfold Gives; go_simp; (with_reducible refine (meStub_any _ _ _ n W (H.out.keep hW.below) Hn.out).mono ?_); rintro e W' ⟨rfl, hb3⟩; first | (refine ⟨?_, Since.trans hW hb3⟩; with_reducible rfl) | (subst hb3; refine ⟨?_, hW⟩; with_reducible rfl))
  simp only [Act.put, List.setIfInBounds_toArray, List.set_cons_succ, List.set_cons_zero]
  refine flow_val (v := ?_) rfl ?_ ?_; rotate_left; (intro W hW; go_simp; with_reducible rfl)
  simp only [Act.put, List.setIfInBounds_toArray, List.set_cons_succ, List.set_cons_zero]
  refine flow_val (v := ?_) rfl ?_ ?_; rotate_left; (intro W hW; go_simp; with_reducible rfl)
  simp only [Act.put, List.setIfInBounds_toArray, List.set_cons_succ, List.set_cons_zero]
  refine flow_gval (v := ?_) rfl rfl ?_ ?_; rotate_left; (intro hb; intro W hW; go_simp; with_reducible rfl)
  simp only [Act.put, List.setIfInBounds_toArray, List.set_cons_succ, List.set_cons_zero]
  refine flow_gop (v := ?_) rfl rfl ?_ ?_; rotate_left; (intro hb; intro W hW; unfold Gives; go_simp; (with_reducible refine (meGirth_any _ _ _ n W (H.out.keep hW.below) Hn.out).mono ?_); rintro e W' ⟨rfl, hb3⟩; first | (refine ⟨?_, Since.trans hW hb3⟩; with_reducible rfl) | (subst hb3; refine ⟨?_, hW⟩; with_reducible rfl))
  simp only [Act.put, List.setIfInBounds_toArray, List.set_cons_succ, List.set_cons_zero]
  refine flow_gval (v := ?_) rfl rfl ?_ ?_; rotate_left; (intro hb; intro W hW; go_simp; with_reducible rfl)
  simp only [Act.put, List.setIfInBounds_toArray, List.set_cons_succ, List.set_cons_zero]
  first | refine flow_and rfl rfl ?_ | (refine flow_val (v := ?_) rfl ?_ ?_; rotate_left; (intro W hW; go_simp; with_reducible rfl))
  simp only [Act.put, List.setIfInBounds_toArray, List.set_cons_succ, List.set_cons_zero]
  refine flow_val (v := ?_) rfl ?_ ?_; rotate_left; (intro W hW; go_simp; with_reducible rfl)
  simp only [Act.put, List.setIfInBounds_toArray, List.set_cons_succ, List.set_cons_zero]
  intro W hW
  go_wp2
  go_ret
  exact ⟨ret_bool HE.out.symm, Since.after Hb0.out hW⟩
def evenTo (n : Net) (k : Nat) : Prop := ∀ v, v < k → evenAt n v = true
theorem evenTo_end {n : Net} (h : evenTo n n.ends.length) : evenAll n = true := by
  unfold evenAll
  rw [List.all_eq_true]
  exact fun v hv => h v (List.mem_range.1 hv)
theorem places_size (n : Net) (p : Nat) : (placesTo (compB n) (p : Int) (compB n).length).length = sizeOf' n p := by
  unfold placesTo sizeOf' sizeTo
  rw [List.length_map, show (compB n).length = n.ends.length by simp [compB]]
  congr 1
  apply List.filter_congr
  intro v hv
  have hv := List.mem_range.1 hv
  rw [show (compB n).getD v 0 = ((leastB n v : Nat) : Int) from getD_of (by unfold compB; rw [List.getElem?_map, List.getElem?_range hv]; rfl)]
  simp only [Int.ofNat_inj]
set_option maxRecDepth 100000 in
set_option maxHeartbeats 8000000 in
theorem plHas_any (ve vi vn : Value) (n : Net) (s : Int) (w : World) (h : NetIn w ve vi vn n) (hn : netOk n = true) (hs : 1 ≤ s ∧ s ≤ 5) :
    Calls Try.prog 13 #[.agg #[ve, vi, vn], .int .i64 s] w fun e w' => e = .returned (.tuple #[.bool (hasB2 n s), .bool (knowB n s)]) ∧ Below w.heap.size w w' := by
  have hnl := netOk_len hn
  have hnl1 := hnl.1
  have hnl2 := hnl.2
  have Hn := Lib.hid hn
  obtain ⟨w0, hw0⟩ : ∃ w0, w0 = (w).alloc (.cells #[ve, vi, vn] 31) := ⟨_, rfl⟩
  have hb0 : Below w.heap.size w w0 := by rw [hw0]; exact ((Below.refl _ _).alloc (by simp) _)
  have H := Lib.hid (h.keep hb0)
  obtain ⟨h1, h2, h3⟩ := h.keep hb0
  obtain ⟨A, c, rfl, hlc, hm, hA⟩ := h1
  obtain ⟨A2, c2, rfl, _, hm2, _⟩ := h2
  obtain ⟨A3, c3, rfl, _, hm3, _⟩ := h3
  unfold maxLen at hm hm2 hm3
  have p00 : ∀ W, Since w0 W → W.cell? ⟨w.heap.size, 0, none⟩ = some (.slice A n.ends.length c) := have_cell (by rw [hw0]; simp)
  have p01 : ∀ W, Since w0 W → W.cell? ⟨w.heap.size, 1, none⟩ = some (.slice A2 n.ids.length c2) := have_cell (by rw [hw0]; simp)
  have p02 : ∀ W, Since w0 W → W.cell? ⟨w.heap.size, 2, none⟩ = some (.slice A3 n.inputs.length c3) := have_cell (by rw [hw0]; simp)
  have Hb0 := Lib.hid hb0
  have Hw0 := Lib.hid hw0
  have HA := Lib.hid hA
  clear hA h
  clear hb0 hw0
  have hs0 : Since w0 w0 := since_refl _
  obtain ⟨r0, hr0⟩ : ∃ r, hasB2 n s = r := ⟨_, rfl⟩
  obtain ⟨r1, hr1⟩ : ∃ r, knowB n s = r := ⟨_, rfl⟩
  have Hr0 := Lib.hid hr0
  have Hr1 := Lib.hid hr1
  rw [hr0, hr1]
  clear hn hnl hr0 hr1
  go_enter Try.func13, Try.ntmps13
  by_cases h1 : s = 1
  · subst h1
    have e0 : r0 = bipB n := by rw [← Hr0.out]; unfold hasB2; rw [if_pos rfl]
    have e1 : r1 = true := by rw [← Hr1.out]; unfold knowB; rw [if_neg (by decide)]
    subst e0 e1
    go_upto_region 1 with (fail)
    rw [← Hw0.out]
    go_wp2_with fail
    refine (meTwo_any _ _ _ n w0 H.out Hn.out).mono ?_
    rintro e w1 ⟨u, rfl, ho, hb⟩
    have Hs1 : Hid (Since w0 w1) := hb
    clear ho hb hs0
    go_wp2
    go_ret2
    exact ⟨rfl, Since.after Hb0.out Hs1.out⟩
  by_cases h2 : s = 2
  · subst h2
    have e0 : r0 = tcHas (tcAll n) := by rw [← Hr0.out]; unfold hasB2; rw [if_neg h1, if_pos rfl]
    have e1 : r1 = (tcAll n).isSome := by rw [← Hr1.out]; unfold knowB; rw [if_pos rfl]
    subst e0 e1
    go_upto_region 1 with (fail)
    rw [← Hw0.out]
    go_wp2_with fail
    refine (plThree_any _ _ _ n w0 H.out Hn.out).mono ?_
    rintro e w1 ⟨u, rfl, ho, hb⟩
    have Hs1 : Hid (Since w0 w1) := hb
    clear ho hb hs0
    go_wp2
    go_ret2
    exact ⟨rfl, Since.after Hb0.out Hs1.out⟩
  have e1 : r1 = true := by rw [← Hr1.out]; unfold knowB; rw [if_neg h2]
  subst e1
  by_cases h3 : s = 3
  · subst h3
    have e0 : r0 = forB n := by rw [← Hr0.out]; unfold hasB2; rw [if_neg h1, if_neg h2, if_pos rfl]
    subst e0
    go_upto_region 1 with (fail)
    rw [← Hw0.out]
    go_wp2_with fail
    refine (meForest_any _ _ _ n w0 H.out Hn.out).mono ?_
    rintro e w1 ⟨rfl, hb⟩
    have Hs1 : Hid (Since w0 w1) := hb
    clear hb hs0
    go_wp2
    go_ret2
    exact ⟨rfl, Since.after Hb0.out Hs1.out⟩
  have b1 : (s == 1) = false := by simpa using h1
  have b2 : (s == 2) = false := by simpa using h2
  have b3 : (s == 3) = false := by simpa using h3
  by_cases hid : n.ids.length = 0
  · have e0 : r0 = false := by rw [← Hr0.out]; unfold hasB2; rw [if_neg h1, if_neg h2, if_neg h3, if_pos hid]
    subst e0
    have hid2 : ((n.ids.length : Int) == 0) = true := by simpa using hid
    clear h1 h2 h3 hid
    go_upto_region 1 with (fail)
    rw [← Hw0.out]
    go_wp2
    go_ret2
    exact ⟨rfl, Hb0.out⟩
  have hid2 : ((n.ids.length : Int) == 0) = false := by simpa using hid
  have hid3 : ¬ n.ids = [] := fun e => hid (by rw [e]; rfl)
  by_cases h4 : s = 4
  · subst h4
    have e0 : r0 = leadAll n := by rw [← Hr0.out]; unfold hasB2; rw [if_neg h1, if_neg h2, if_neg h3, if_neg hid, if_pos rfl]
    subst e0
    clear h1 h2 h3 b1 b2 b3 hid
    go_upto_region 1 with (fail)
    rw [← Hw0.out]
    go_wp2_with fail
    refine (plOnce_any _ _ _ n w0 H.out Hn.out).mono ?_
    rintro e w1 ⟨u, rfl, ho, hb⟩
    have Hs1 : Hid (Since w0 w1) := hb
    clear ho hb hs0
    go_wp2
    go_ret2
    exact ⟨rfl, Since.after Hb0.out Hs1.out⟩
  have b4 : (s == 4) = false := by simpa using h4
  have e0 : r0 = evenAll n := by rw [← Hr0.out]; unfold hasB2; rw [if_neg h1, if_neg h2, if_neg h3, if_neg hid, if_neg h4]
  have He0 : Hid (evenAll n = r0) := e0.symm
  clear e0 h1 h2 h3 h4 hid
  go_upto_region 1 with (fail)
  rw [← Hw0.out]
  go_wp2_with fail
  refine (meParts_any _ _ _ n w0 H.out Hn.out).mono ?_
  rintro e w2 ⟨u2, rfl, ho2, hb2⟩
  have hcl : (compB n).length = n.ends.length := by simp [compB]
  obtain ⟨gc, cc, rfl⟩ : ∃ gc cc, u2 = .slice (some ⟨gc, 0, none⟩) n.ends.length cc := by
    obtain ⟨x, hx⟩ := getx (compB n) 0 (by omega)
    obtain ⟨g, c, h1, -⟩ := own_row ho2 hx
    exact ⟨g, c, by rw [h1, hcl]⟩
  have Ho2 := Lib.hid ho2
  have Hs2 : Hid (Since w0 w2) := hb2
  have Hcl := Lib.hid hcl
  clear ho2 hb2 hs0 hcl
  go_wp2
  go_loopw [55] (fun i wr => ∃ k : Nat, k ≤ n.ends.length ∧ i = .int .i64 k ∧ evenTo n k ∧ Since w2 wr) (fun i _ => n.ends.length - (intOf i).toNat)
  case atStart => exact ⟨0, Nat.zero_le _, rfl, fun v hv => by omega, since_refl _⟩
  case round =>
    obtain ⟨k, hk, rfl, hev, hsr⟩ := hrel
    have Hev := Lib.hid hev
    have Hs := Lib.hid hsr
    clear hev hsr
    by_cases hlt : k < n.ends.length
    · have m3 : IntKind.i64.wrap ((k : Int) + 1) = (k : Int) + 1 := wr64 _ (by omega) (by omega)
      obtain ⟨p, hp⟩ : ∃ p, leastB n k = p := ⟨_, rfl⟩
      have HoW := Lib.hid (Ho2.out.since Hs.out)
      have c1 := HoW.out.cell (show (compB n)[k]? = some (p : Int) by rw [← hp]; unfold compB; rw [List.getElem?_map, List.getElem?_range hlt]; rfl)
      have Hp := Lib.hid hp
      have HI : Hid (IntS wr (.slice (some ⟨gc, 0, none⟩) n.ends.length cc) (compB n)) := HoW.out.ints
      have Hsz := places_size n p
      rw [Hcl.out] at Hsz
      obtain ⟨z, hz⟩ : ∃ z, sizeOf' n p = z := ⟨_, rfl⟩
      have hzl : z ≤ n.ends.length := by rw [← hz]; exact sizeTo_le n p _
      rw [hz] at Hsz
      have HSz := Lib.hid Hsz
      have Hz := Lib.hid hz
      clear hp Hsz hz
      go_wp2_with fail
      refine (deNodes_any _ (compB n) (p : Int) wr HI.out (by rw [Hcl.out]; omega)).mono ?_
      rintro e w3 ⟨u3, rfl, ho3, hb3⟩
      rw [Hcl.out] at ho3
      obtain ⟨A3', c3', rfl⟩ : ∃ A c, u3 = .slice A z c := by
        rcases ho3.cases with ⟨rfl, e1⟩ | ⟨g, c, rfl, -, -⟩
        · have := congrArg List.length e1; rw [HSz.out, List.length_nil] at this; exact ⟨none, 0, by rw [this]⟩
        · exact ⟨_, c, by rw [HSz.out]⟩
      have Hs3 := Lib.hid (Hs.out.after hb3)
      clear ho3 hb3 c1
      by_cases hod : z % 2 = 1
      · have t1 : Int.tmod (z : Int) 2 = 1 := by rw [Int.tmod_eq_emod_of_nonneg (by omega)]; omega
        have t2 : (z : Int) % 2 = 1 := by omega
        have hno : evenAll n = false := all_range_no hlt (by unfold evenAt; rw [Hp.out, Hz.out, hod]; rfl)
        rw [He0.out] at hno
        subst hno
        go_wp2
        go_ret2
        exact ⟨rfl, Since.after Hb0.out (Hs2.out.after Hs3.out)⟩
      · have t1 : Int.tmod (z : Int) 2 = 0 := by rw [Int.tmod_eq_emod_of_nonneg (by omega)]; omega
        have t2 : (z : Int) % 2 = 0 := by omega
        have Hev2 : Hid (evenTo n (k + 1)) := fun v hv => by
          rcases Nat.lt_or_ge v k with h1 | h1
          · exact Hev.out v h1
          · rw [show v = k by omega]
            unfold evenAt
            rw [Hp.out, Hz.out]
            have : (z % 2 == 1) = false := by simpa using hod
            rw [this]; rfl
        clear hod
        go_wp2
        go_roundw
        case rel => exact ⟨k + 1, by omega, by first | rfl | go_num, Hev2.out, Hs3.out⟩
        case measure => simp [intOf]; omega
    · obtain rfl : k = n.ends.length := by omega
      have hbt := evenTo_end Hev.out
      rw [He0.out] at hbt
      subst hbt
      go_wp2
      go_ret2
      exact ⟨rfl, Since.after Hb0.out (Hs2.out.after Hs.out)⟩
end Go.Proofs.Ytomnaabadohecaa
namespace Go.Proofs.Ytomnaabadohecaa
open Go.RowKit
/-! the property: both sides -/
set_option maxRecDepth 100000 in
set_option maxHeartbeats 8000000 in
theorem fnExactHasProperty_spec (ve vi vn : Value) (n : Net) (s : Int) (w : World) (h : NetIn w ve vi vn n) (_ : -9223372036854775808 ≤ s ∧ s ≤ 9223372036854775807) (_ : szNet n ≤ 1048576) :
    Calls Try.prog 5 #[.agg #[ve, vi, vn], .int .i64 s] w fun e w' => e = .returned (.tuple #[.bool (fnExactHasProperty_r0 n s), .bool (fnExactHasProperty_r1 n s)]) ∧ Below w.heap.size w w' := by
  obtain ⟨w0, hw0⟩ : ∃ w0, w0 = (w).alloc (.cells #[ve, vi, vn] 31) := ⟨_, rfl⟩
  have hb0 : Below w.heap.size w w0 := by rw [hw0]; exact ((Below.refl _ _).alloc (by simp) _)
  have H := Lib.hid (h.keep hb0)
  obtain ⟨h1, h2, h3⟩ := h.keep hb0
  obtain ⟨A, c, rfl, hlc, hm, hA⟩ := h1
  obtain ⟨A2, c2, rfl, _, hm2, _⟩ := h2
  obtain ⟨A3, c3, rfl, _, hm3, _⟩ := h3
  unfold maxLen at hm hm2 hm3
  have p00 : ∀ W, Since w0 W → W.cell? ⟨w.heap.size, 0, none⟩ = some (.slice A n.ends.length c) := have_cell (by rw [hw0]; simp)
  have p01 : ∀ W, Since w0 W → W.cell? ⟨w.heap.size, 1, none⟩ = some (.slice A2 n.ids.length c2) := have_cell (by rw [hw0]; simp)
  have p02 : ∀ W, Since w0 W → W.cell? ⟨w.heap.size, 2, none⟩ = some (.slice A3 n.inputs.length c3) := have_cell (by rw [hw0]; simp)
  have Hb0 := Lib.hid hb0
  have Hw0 := Lib.hid hw0
  have HA := Lib.hid hA
  clear hA h
  clear hb0 hw0
  obtain ⟨r0, hr0⟩ : ∃ r, fnExactHasProperty_r0 n s = r := ⟨_, rfl⟩
  obtain ⟨r1, hr1⟩ : ∃ r, fnExactHasProperty_r1 n s = r := ⟨_, rfl⟩
  have Hr0 := Lib.hid hr0
  have Hr1 := Lib.hid hr1
  rw [hr0, hr1]
  clear hr0 hr1
  go_enter Try.func5, Try.ntmps5
  go_upto_region 1 with (fail)
  rw [← Hw0.out]
  refine wp_region_flow0 8 (Since w0) (since_refl _) ?_
  simp only [List.take_succ_cons, List.take_zero, List.drop_succ_cons, List.drop_zero]
  refine flow_val (v := ?_) rfl ?_ ?_; rotate_left; (intro W hW; go_simp; with_reducible rfl)
  simp only [Act.put, List.setIfInBounds_toArray, List.set_cons_succ, List.set_cons_zero]
  refine flow_op ?_ rfl ?_ ?_; rotate_left; (intro W hW; unfold Gives; go_simp; (with_reducible refine (neGood_any _ _ _ n W (H.out.keep hW.below)).mono ?_); rintro e W' ⟨rfl, hb3⟩; first | (refine ⟨?_, Since.trans hW hb3⟩; with_reducible rfl) | (subst hb3; refine ⟨?_, hW⟩; with_reducible rfl))
  simp only [Act.put, List.setIfInBounds_toArray, List.set_cons_succ, List.set_cons_zero]
  refine flow_val (v := ?_) rfl ?_ ?_; rotate_left; (intro W hW; go_simp; with_reducible rfl)
  simp only [Act.put, List.setIfInBounds_toArray, List.set_cons_succ, List.set_cons_zero]
  refine flow_val (v := ?_) rfl ?_ ?_; rotate_left; (intro W hW; go_simp; with_reducible rfl)
  simp only [Act.put, List.setIfInBounds_toArray, List.set_cons_succ, List.set_cons_zero]
  refine flow_gval (v := ?_) rfl rfl ?_ ?_; rotate_left; (intro hb; intro W hW; go_simp; with_reducible rfl)
  simp only [Act.put, List.setIfInBounds_toArray, List.set_cons_succ, List.set_cons_zero]
  refine flow_gop (v := ?_) rfl rfl ?_ ?_; rotate_left; (intro hb; intro W hW; unfold Gives; go_simp; (with_reducible refine (plScheme_b _ W).mono ?_); rintro e W' ⟨rfl, hb3⟩; first | (refine ⟨?_, Since.trans hW hb3⟩; with_reducible rfl) | (subst hb3; refine ⟨?_, hW⟩; with_reducible rfl))
  simp only [Act.put, List.setIfInBounds_toArray, List.set_cons_succ, List.set_cons_zero]
  refine flow_gval (v := ?_) rfl rfl ?_ ?_; rotate_left; (intro hb; intro W hW; go_simp; with_reducible rfl)
  simp only [Act.put, List.setIfInBounds_toArray, List.set_cons_succ, List.set_cons_zero]
  first | refine flow_or rfl rfl ?_ | (refine flow_val (v := ?_) rfl ?_ ?_; rotate_left; (intro W hW; go_simp; with_reducible rfl))
  simp only [Act.put, List.setIfInBounds_toArray, List.set_cons_succ, List.set_cons_zero]
  intro W hW
  have HW := Lib.hid hW
  cases hg : (!netOk n || !inB 1 5 s)
  · simp only [Bool.or_eq_false_iff, Bool.not_eq_false'] at hg
    have e0 : r0 = hasB2 n s := by rw [← Hr0.out]; unfold fnExactHasProperty_r0 hpOk; rw [hg.1, hg.2]; rfl
    have e1 : r1 = knowB n s := by rw [← Hr1.out]; unfold fnExactHasProperty_r1 hpOk; rw [hg.1, hg.2]; rfl
    have Hn := Lib.hid hg.1
    have Hs := Lib.hid (inB_iff.1 hg.2)
    have he : (!netOk n || !inB 1 5 s) = false := by rw [hg.1, hg.2]; rfl
    subst e0 e1
    clear hg
    go_wp2_with fail
    refine (plHas_any _ _ _ n s W (H.out.keep HW.out.below) Hn.out Hs.out).mono ?_
    rintro e w1 ⟨rfl, hb⟩
    have Hs1 := Lib.hid (HW.out.after hb)
    clear hb hW
    go_wp2
    go_ret2
    exact ⟨rfl, Since.after Hb0.out Hs1.out⟩
  · have hno : hpOk n s = false := by unfold hpOk; revert hg; cases netOk n <;> cases inB 1 5 s <;> simp
    have e0 : r0 = false := by rw [← Hr0.out]; unfold fnExactHasProperty_r0; rw [hno]; rfl
    have e1 : r1 = false := by rw [← Hr1.out]; unfold fnExactHasProperty_r1; rw [hno]; rfl
    subst e0 e1
    clear hW hno
    go_wp2
    go_ret2
    exact ⟨rfl, Since.after Hb0.out HW.out⟩
theorem ones_leads {n : Net} {v : Nat} (h : (onesOf n (leastB n v)).length = 1) : oneLead n v = true := by unfold oneLead; rw [h]; rfl
set_option maxRecDepth 100000 in
set_option maxHeartbeats 16000000 in
theorem fnExactHasProperty_impl (ve vi vn : Value) (n : Net) (s : Int) (w : World) (h : NetIn w ve vi vn n) (_ : -9223372036854775808 ≤ s ∧ s ≤ 9223372036854775807) (hsz : szNet n ≤ 1048576) :
    Calls Try.prog 7 #[.agg #[ve, vi, vn], .int .i64 s] w fun e w' => e = .returned (.tuple #[.bool (fnExactHasProperty_r0 n s), .bool (fnExactHasProperty_r1 n s)]) ∧ Below w.heap.size w w' := by
  have Hil : Hid (n.ids.length ≤ 17592186044416) := by show _ ≤ _; unfold szNet at hsz; omega
  clear hsz
  obtain ⟨w0, hw0⟩ : ∃ w0, w0 = (w).alloc (.cells #[ve, vi, vn] 31) := ⟨_, rfl⟩
  have hb0 : Below w.heap.size w w0 := by rw [hw0]; exact ((Below.refl _ _).alloc (by simp) _)
  have H := Lib.hid (h.keep hb0)
  obtain ⟨h1, h2, h3⟩ := h.keep hb0
  obtain ⟨A, c, rfl, hlc, hm, hA⟩ := h1
  obtain ⟨A2, c2, rfl, _, hm2, _⟩ := h2
  obtain ⟨A3, c3, rfl, _, hm3, _⟩ := h3
  unfold maxLen at hm hm2 hm3
  have p00 : ∀ W, Since w0 W → W.cell? ⟨w.heap.size, 0, none⟩ = some (.slice A n.ends.length c) := have_cell (by rw [hw0]; simp)
  have p01 : ∀ W, Since w0 W → W.cell? ⟨w.heap.size, 1, none⟩ = some (.slice A2 n.ids.length c2) := have_cell (by rw [hw0]; simp)
  have p02 : ∀ W, Since w0 W → W.cell? ⟨w.heap.size, 2, none⟩ = some (.slice A3 n.inputs.length c3) := have_cell (by rw [hw0]; simp)
  have Hb0 := Lib.hid hb0
  have Hw0 := Lib.hid hw0
  have HA := Lib.hid hA
  clear hA h
  clear hb0 hw0
  obtain ⟨r0, hr0⟩ : ∃ r, fnExactHasProperty_r0 n s = r := ⟨_, rfl⟩
  obtain ⟨r1, hr1⟩ : ∃ r, fnExactHasProperty_r1 n s = r := ⟨_, rfl⟩
  have Hr0 := Lib.hid hr0
  have Hr1 := Lib.hid hr1
  rw [hr0, hr1]
  clear hr0 hr1
  go_enter Try.func7, Try.ntmps7
  go_upto_region 1 with (fail)
  rw [← Hw0.out]
  refine wp_region_flow0 8 (Since w0) (since_refl _) ?_
  simp only [List.take_succ_cons, List.take_zero, List.drop_succ_cons, List.drop_zero]
  refine flow_val (v := ?_) rfl ?_ ?_; rotate_left; (intro W hW; go_simp; with_reducible rfl)
  simp only [Act.put, List.setIfInBounds_toArray, List.set_cons_succ, List.set_cons_zero]
  refine flow_op ?_ rfl ?_ ?_; rotate_left; (intro W hW; unfold Gives; go_simp; (with_reducible refine (isNetwork_any _ _ _ n W (H.out.keep hW.below) Hil.out).mono ?_); rintro e W' ⟨rfl, hb3⟩; first | (refine ⟨?_, Since.trans hW hb3⟩; with_reducible rfl) | (subst hb3; refine ⟨?_, hW⟩; with_reducible rfl))
  simp only [Act.put, List.setIfInBounds_toArray, List.set_cons_succ, List.set_cons_zero]
  refine flow_val (v := ?_) rfl ?_ ?_; rotate_left; (intro W hW; go_simp; with_reducible rfl)
  simp only [Act.put, List.setIfInBounds_toArray, List.set_cons_succ, List.set_cons_zero]
  refine flow_val (v := ?_) rfl ?_ ?_; rotate_left; (intro W hW; go_simp; with_reducible rfl)
  simp only [Act.put, List.setIfInBounds_toArray, List.set_cons_succ, List.set_cons_zero]
  refine flow_gval (v := ?_) rfl rfl ?_ ?_; rotate_left; (intro hb; intro W hW; go_simp; with_reducible rfl)
  simp only [Act.put, List.setIfInBounds_toArray, List.set_cons_succ, List.set_cons_zero]
  refine flow_gop (v := ?_) rfl rfl ?_ ?_; rotate_left; (intro hb; intro W hW; unfold Gives; go_simp; (with_reducible refine (isScheme_b _ W).mono ?_); rintro e W' ⟨rfl, hb3⟩; first | (refine ⟨?_, Since.trans hW hb3⟩; with_reducible rfl) | (subst hb3; refine ⟨?_, hW⟩; with_reducible rfl))
  simp only [Act.put, List.setIfInBounds_toArray, List.set_cons_succ, List.set_cons_zero]
  refine flow_gval (v := ?_) rfl rfl ?_ ?_; rotate_left; (intro hb; intro W hW; go_simp; with_reducible rfl)
  simp only [Act.put, List.setIfInBounds_toArray, List.set_cons_succ, List.set_cons_zero]
  first | refine flow_or rfl rfl ?_ | (refine flow_val (v := ?_) rfl ?_ ?_; rotate_left; (intro W hW; go_simp; with_reducible rfl))
  simp only [Act.put, List.setIfInBounds_toArray, List.set_cons_succ, List.set_cons_zero]
  intro W hW
  have HW := Lib.hid hW
  cases hg : (!netOk n || !inB 1 5 s)
  · simp only [Bool.or_eq_false_iff, Bool.not_eq_false'] at hg
    have e0 : r0 = hasB2 n s := by rw [← Hr0.out]; unfold fnExactHasProperty_r0 hpOk; rw [hg.1, hg.2]; rfl
    have e1 : r1 = knowB n s := by rw [← Hr1.out]; unfold fnExactHasProperty_r1 hpOk; rw [hg.1, hg.2]; rfl
    have Hn := Lib.hid hg.1
    have hsr := inB_iff.1 hg.2
    have hnl := netOk_len hg.1
    have hnl1 := hnl.1
    have hnl2 := hnl.2
    have he : (!netOk n || !inB 1 5 s) = false := by rw [hg.1, hg.2]; rfl
    have HE0 := Lib.hid e0
    have HE1 := Lib.hid e1
    clear hg hnl e0 e1
    by_cases h1 : s = 1
    · subst h1
      have e0 : r0 = bipB n := by rw [HE0.out]; unfold hasB2; rw [if_pos rfl]
      have e1 : r1 = true := by rw [HE1.out]; unfold knowB; rw [if_neg (by decide)]
      subst e0 e1
      go_wp2_with fail
      refine (twoColouring_any _ _ _ n W (H.out.keep HW.out.below) Hn.out).mono ?_
      rintro e w1 ⟨u, rfl, ho, hb⟩
      have Hs1 := Lib.hid (HW.out.after hb)
      clear ho hb hW
      go_wp2
      go_ret2
      exact ⟨rfl, Since.after Hb0.out Hs1.out⟩
    by_cases h2 : s = 2
    · subst h2
      have e0 : r0 = tcHas (tcAll n) := by rw [HE0.out]; unfold hasB2; rw [if_neg h1, if_pos rfl]
      have e1 : r1 = (tcAll n).isSome := by rw [HE1.out]; unfold knowB; rw [if_pos rfl]
      subst e0 e1
      go_wp2_with fail
      refine (threeColouring_any _ _ _ n W (H.out.keep HW.out.below) Hn.out).mono ?_
      rintro e w1 ⟨u, rfl, ho, hb⟩
      have Hs1 := Lib.hid (HW.out.after hb)
      have Ho := Lib.hid ho
      clear ho hb hW
      cases hR : tcAll n with
      | none =>
        rw [hR] at Ho
        obtain rfl : u = .slice none 0 0 := Ho.out
        go_wp2
        go_ret2
        rw [hR]
        exact ⟨rfl, Since.after Hb0.out Hs1.out⟩
      | some q =>
        cases q with
        | none =>
          rw [hR] at Ho
          obtain rfl : u = .slice none 0 0 := Ho.out
          go_wp2
          go_ret2
          rw [hR]
          exact ⟨rfl, Since.after Hb0.out Hs1.out⟩
        | some l =>
          rw [hR] at Ho
          obtain ⟨g, c9, rfl⟩ : ∃ g c, u = .slice (some ⟨g, 0, none⟩) n.ends.length c := Ho.out
          go_wp2
          go_ret2
          rw [hR]
          exact ⟨rfl, Since.after Hb0.out Hs1.out⟩
    have e1 : r1 = true := by rw [HE1.out]; unfold knowB; rw [if_neg h2]
    subst e1
    by_cases h3 : s = 3
    · subst h3
      have e0 : r0 = forB n := by rw [HE0.out]; unfold hasB2; rw [if_neg h1, if_neg h2, if_pos rfl]
      subst e0
      go_wp2_with fail
      refine (isForest_any _ _ _ n W (H.out.keep HW.out.below) Hn.out).mono ?_
      rintro e w1 ⟨rfl, hb⟩
      have Hs1 := Lib.hid (HW.out.after hb)
      clear hb hW
      go_wp2
      go_ret2
      exact ⟨rfl, Since.after Hb0.out Hs1.out⟩
    have b1 : (s == 1) = false := by simpa using h1
    have b2 : (s == 2) = false := by simpa using h2
    have b3 : (s == 3) = false := by simpa using h3
    have hq01 := p01 W hW
    by_cases hid : n.ids.length = 0
    · have e0 : r0 = false := by rw [HE0.out]; unfold hasB2; rw [if_neg h1, if_neg h2, if_neg h3, if_pos hid]
      subst e0
      have hid2 : ((n.ids.length : Int) == 0) = true := by simpa using hid
      clear h1 h2 h3 hid hW
      go_wp2
      go_ret2
      exact ⟨rfl, Since.after Hb0.out HW.out⟩
    have hid2 : ((n.ids.length : Int) == 0) = false := by simpa using hid
    have hid3 : ¬ n.ids = [] := fun e => hid (by rw [e]; rfl)
    by_cases h4 : s = 4
    · subst h4
      have e0 : r0 = leadAll n := by rw [HE0.out]; unfold hasB2; rw [if_neg h1, if_neg h2, if_neg h3, if_neg hid, if_pos rfl]
      have Hl0 : Hid (leadAll n = r0) := e0.symm
      clear e0 h1 h2 h3 b1 b2 b3 hid
      go_wp2_with fail
      refine (leaders_any _ _ _ n W (H.out.keep HW.out.below) Hn.out).mono ?_
      rintro e w3 ⟨b, D, U, rfl, hm, hlm, hbb, hb⟩
      have Hm := Lib.hid hm
      have Hlm := Lib.hid hlm
      have Hs3 := Lib.hid (HW.out.after hb)
      have Hbb : Hid (w0.heap.size ≤ b) := Nat.le_trans HW.out.below.size hbb
      obtain ⟨r, hr⟩ : ∃ r, w3.heap.size = r := ⟨_, rfl⟩
      have Hbr : Hid (w0.heap.size ≤ r) := by show _ ≤ _; rw [← hr]; exact Hs3.out.below.size
      clear hm hlm hbb hb hW hq01
      go_wp2_with (first | (at_range; refine wpList_range_own _ rfl _ 43 rfl 3 23 lawK Try.underlying43 slD b 100 D rfl Hm.out ?_; rw [hr]; intro w4 hrg hg4 hs4; have Hrg := Lib.hid hrg; have Hs4 : Hid (Since w0 w4) := Below.grown Hs3.out hg4 Hs3.out.below.size (fun j hj => by simp at hj); clear hrg hg4 hs4))
      go_frame
      clear hr
      go_loopw [11] (fun _ wr => ∃ left cnt, wr.ranges Try.prog 3 slD b r 100 D left cnt ∧ (∀ kl, left kl = true → Maps.has D kl = true) ∧ (∀ v, v < n.ends.length → left (kI (leastB n v)) = false → oneLead n v = true) ∧ Since w0 wr) (fun _ wr => wr.rangeLeft b r)
      case atStart => exact ⟨_, _, Hrg.out, fun _ h => h, fun v hv h => absurd ((Hlm.out.all v hv).symm.trans h) (by simp), Hs4.out⟩
      case round =>
        obtain ⟨left, cnt, hrg, hl1, hl2, hsr2⟩ := hrel
        have Hrg1 := Lib.hid hrg
        have Hl1 := Lib.hid hl1
        have Hl2 := Lib.hid hl2
        have Hsr2 := Lib.hid hsr2
        clear hrg hl1 hl2 hsr2
        go_wp2_with (first | (at_next; refine wpList_next_ranges _ rfl _ rfl 3 lawK slD (Value.int .i64) (fun c : Option Addr × Nat × Nat => Value.slice c.1 c.2.1 c.2.2) (fun key kl hkey => by obtain ⟨x, rfl, _⟩ := Go.Maps.keyOf_int_inv Try.underlying3 hkey; exact ⟨x, rfl⟩) (fun v y hv => by rcases slD_form hv with ⟨m, c, rfl, _⟩ | ⟨g, m, c, rfl, _⟩ <;> exact ⟨(_, _, _), rfl⟩) b r 100 D left cnt rfl Hrg1.out ?_ ?_))
        · intro h0 hl
          have hb1 : r0 = true := by
            rw [← Hl0.out]
            exact leadTo_end (fun v hv => Hl2.out v hv (hl _))
          subst hb1
          go_wp2
          go_ret2
          exact ⟨rfl, Since.after Hb0.out Hsr2.out⟩
        · intro x cA cn cc kl y1 y2 w5 cnt5 hkey hlk hv hat hrg5 hlt5 hg5 hs5 hen
          (try dsimp only at hv)
          (try dsimp only at hen)
          (try dsimp only)
          obtain ⟨v0, hv0, rfl⟩ := Hlm.out.keys kl (Hl1.out kl hlk)
          obtain ⟨p, hp⟩ : ∃ p, leastB n v0 = p := ⟨_, rfl⟩
          rw [hp] at hkey hlk hat hrg5
          have hcn : cn = (onesOf n p).length := by
            have e1 := Hlm.out.val p
            have e2 : (y1, y2) = (D.atKey (kI p) zD, []) := by
              have e3 := hat zD
              rcases slD_form hv with ⟨_, _, _, e4⟩ | ⟨_, _, _, _, e4⟩
              · rw [e3, (Prod.mk.inj e4).2]
              · rw [e3, (Prod.mk.inj e4).2]
            rw [← e2] at e1
            have e5 := slD_inj hv e1
            have e6 := Hlm.out.own p
            rw [← e5] at e6
            rcases e6.cases with ⟨e7, e8⟩ | ⟨g, c0, e7, -, -⟩
            · simp only [Value.slice.injEq] at e7
              have := congrArg List.length e8
              rw [List.length_map, List.length_nil] at this
              unfold onesOf
              omega
            · simp only [Value.slice.injEq] at e7
              rw [List.length_map] at e7
              unfold onesOf
              omega
          have Hrg5 := Lib.hid hrg5
          have Hs5 : Hid (Since w0 w5) := Below.grown Hsr2.out hg5 Hsr2.out.below.size (fun j hj => by simp only [Option.some.injEq] at hj; have := Hbr.out; omega)
          have Hcn := Lib.hid hcn
          have Hp := Lib.hid hp
          have Hlt5 := Lib.hid hlt5
          clear hkey hlk hv hat hrg5 hlt5 hg5 hs5 hp hcn
          by_cases h1 : cn = 1
          · subst h1
            have Hn2 : Hid (∀ v, v < n.ends.length → (left (kI (leastB n v)) && !(kI (leastB n v)).sameKey (kI p)) = false → oneLead n v = true) := fun v hv hc => by
              rcases Bool.and_eq_false_iff.1 hc with h2 | h2
              · exact Hl2.out v hv h2
              · have h3 : leastB n v = p := kI_inj (WideAt.sameKey_eq (by simpa using h2))
                exact ones_leads (by rw [h3]; exact Hcn.out.symm)
            go_wp2
            go_roundw
            case rel => exact ⟨_, _, Hrg5.out, fun kl hk => Hl1.out kl (by rw [Bool.and_eq_true] at hk; exact hk.1), Hn2.out, Hs5.out⟩
            case measure => rw [Hrg5.out.left_eq, Hrg1.out.left_eq]; exact Hlt5.out
          · have hno := leadAll_no hv0 (by rw [Hp.out, ← Hcn.out]; exact h1)
            rw [Hl0.out] at hno
            subst hno
            have h2 : ((cn : Int) != 1) = true := by simp; omega
            have h3 : ((cn : Int) == 1) = false := by simp; omega
            go_wp2
            go_ret2
            exact ⟨rfl, Since.after Hb0.out Hs5.out⟩
    have e0 : r0 = evenAll n := by rw [HE0.out]; unfold hasB2; rw [if_neg h1, if_neg h2, if_neg h3, if_neg hid, if_neg h4]
    have Hl0 : Hid (evenAll n = r0) := e0.symm
    have b4 : (s == 4) = false := by simpa using h4
    clear e0 h1 h2 h3 h4 hid
    go_wp2_with fail
    refine (componentSizes_any _ _ _ n W (H.out.keep HW.out.below) Hn.out).mono ?_
    rintro e w3 ⟨b, D, rfl, hm, hlm, hbb, hb⟩
    have Hm := Lib.hid hm
    have Hlm := Lib.hid hlm
    have Hs3 := Lib.hid (HW.out.after hb)
    obtain ⟨r, hr⟩ : ∃ r, w3.heap.size = r := ⟨_, rfl⟩
    have Hbr : Hid (w0.heap.size ≤ r) := by show _ ≤ _; rw [← hr]; exact Hs3.out.below.size
    clear hm hlm hbb hb hW hq01
    go_wp2_with (first | (at_range; refine wpList_range_own _ rfl _ 45 rfl 3 3 lawK Try.underlying45 (plainElem (H := Unit) Try.prog 3) b n.ends.length D rfl Hm.out ?_; rw [hr]; intro w4 hrg hg4 hs4; have Hrg := Lib.hid hrg; have Hs4 : Hid (Since w0 w4) := Below.grown Hs3.out hg4 Hs3.out.below.size (fun j hj => by simp at hj); clear hrg hg4 hs4))
    go_frame
    clear hr
    go_loopw [13] (fun _ wr => ∃ left cnt, wr.ranges Try.prog 3 (plainElem (H := Unit) Try.prog 3) b r n.ends.length D left cnt ∧ (∀ kl, left kl = true → Maps.has D kl = true) ∧ (∀ v, v < n.ends.length → left (kI (leastB n v)) = false → evenAt n v = true) ∧ Since w0 wr) (fun _ wr => wr.rangeLeft b r)
    case atStart => exact ⟨_, _, Hrg.out, fun _ h => h, fun v hv h => absurd ((Hlm.out.all v hv).symm.trans h) (by simp), Hs4.out⟩
    case round =>
      obtain ⟨left, cnt, hrg, hl1, hl2, hsr2⟩ := hrel
      have Hrg1 := Lib.hid hrg
      have Hl1 := Lib.hid hl1
      have Hl2 := Lib.hid hl2
      have Hsr2 := Lib.hid hsr2
      clear hrg hl1 hl2 hsr2
      go_wp2_with (first | (at_next; refine wpList_next_ranges_ii _ rfl _ rfl 3 3 .i64 .i64 lawK Try.underlying3 Try.underlying3 b r n.ends.length D left cnt rfl Hrg1.out ?_ ?_))
      · intro h0 hl
        have hb1 : r0 = true := by
          rw [← Hl0.out]
          exact evenTo_end (fun v hv => Hl2.out v hv (hl _))
        subst hb1
        go_wp2
        go_ret2
        exact ⟨rfl, Since.after Hb0.out Hsr2.out⟩
      · intro x c9 w5 cnt5 hwx hwc hlk hat hrg5 hlt5 hg5 hs5 hen
        obtain ⟨v0, hv0, hkl⟩ := Hlm.out.keys _ (Hl1.out _ hlk)
        obtain ⟨p, hp⟩ : ∃ p, leastB n v0 = p := ⟨_, rfl⟩
        rw [hp] at hkl
        rw [hkl] at hlk hat hrg5
        have hcn : c9 = ((sizeOf' n p : Nat) : Int) := by
          have e1 := (hat (lI 0)).symm.trans (Hlm.out.val p)
          exact lI_inj e1
        obtain ⟨z, hz⟩ : ∃ z, sizeOf' n p = z := ⟨_, rfl⟩
        rw [hz] at hcn
        subst hcn
        have Hrg5 := Lib.hid hrg5
        have Hs5 : Hid (Since w0 w5) := Below.grown Hsr2.out hg5 Hsr2.out.below.size (fun j hj => by simp only [Option.some.injEq] at hj; have := Hbr.out; omega)
        have Hz := Lib.hid hz
        have Hp := Lib.hid hp
        have Hlt5 := Lib.hid hlt5
        clear hwx hwc hlk hat hrg5 hlt5 hg5 hs5 hp hz hkl
        by_cases hod : z % 2 = 1
        · have t1 : Int.tmod (z : Int) 2 = 1 := by rw [Int.tmod_eq_emod_of_nonneg (by omega)]; omega
          have t2 : (z : Int) % 2 = 1 := by omega
          have hno : evenAll n = false := all_range_no hv0 (by unfold evenAt; rw [Hp.out, Hz.out, hod]; rfl)
          rw [Hl0.out] at hno
          subst hno
          go_wp2
          go_ret2
          exact ⟨rfl, Since.after Hb0.out Hs5.out⟩
        · have t1 : Int.tmod (z : Int) 2 = 0 := by rw [Int.tmod_eq_emod_of_nonneg (by omega)]; omega
          have t2 : (z : Int) % 2 = 0 := by omega
          have Hn2 : Hid (∀ v, v < n.ends.length → (left (kI (leastB n v)) && !(kI (leastB n v)).sameKey (kI p)) = false → evenAt n v = true) := fun v hv hc => by
            rcases Bool.and_eq_false_iff.1 hc with h2 | h2
            · exact Hl2.out v hv h2
            · have h3 : leastB n v = p := kI_inj (WideAt.sameKey_eq (by simpa using h2))
              unfold evenAt
              rw [h3, Hz.out]
              have : (z % 2 == 1) = false := by simpa using hod
              rw [this]; rfl
          clear hod
          go_wp2
          go_roundw
          case rel => exact ⟨_, _, Hrg5.out, fun kl hk => Hl1.out kl (by rw [Bool.and_eq_true] at hk; exact hk.1), Hn2.out, Hs5.out⟩
          case measure => rw [Hrg5.out.left_eq, Hrg1.out.left_eq]; exact Hlt5.out
  · have hno : hpOk n s = false := by unfold hpOk; revert hg; cases netOk n <;> cases inB 1 5 s <;> simp
    have e0 : r0 = false := by rw [← Hr0.out]; unfold fnExactHasProperty_r0; rw [hno]; rfl
    have e1 : r1 = false := by rw [← Hr1.out]; unfold fnExactHasProperty_r1; rw [hno]; rfl
    subst e0 e1
    clear hW hno
    go_wp2
    go_ret2
    exact ⟨rfl, Since.after Hb0.out HW.out⟩
end Go.Proofs.Ytomnaabadohecaa
namespace Go.Proofs.Ytomnaabadohecaa
open Go.RowKit
set_option maxRecDepth 100000 in
set_option maxHeartbeats 16000000 in
theorem fnExactHasProperty_walk (w : World) (ve vi vn : Value) (n : Net) (ni : NetIn w ve vi vn n) (_ : Net64 n) (a1 : Int) (ba1 : -9223372036854775808 ≤ a1 ∧ a1 ≤ 9223372036854775807) :
    Calls Try.prog 3 #[.agg #[ve, vi, vn], .int .i64 a1] w fun e w' => e = .returned (.bool true) ∧ Below w.heap.size w w' := by
  obtain ⟨w0, hw0⟩ : ∃ w0, w0 = (w).alloc (.cells #[ve, vi, vn] 25) := ⟨_, rfl⟩
  have hb0 : Below w.heap.size w w0 := by rw [hw0]; exact ((Below.refl _ _).alloc (by simp) _)
  have H := Lib.hid (ni.keep hb0)
  obtain ⟨h1, h2, h3⟩ := ni.keep hb0
  obtain ⟨A, c, rfl, hlc, hm, hA⟩ := h1
  obtain ⟨A2, c2, rfl, _, hm2, _⟩ := h2
  obtain ⟨A3, c3, rfl, _, hm3, _⟩ := h3
  unfold maxLen at hm hm2 hm3
  have p00 : ∀ W, Since w0 W → W.cell? ⟨w.heap.size, 0, none⟩ = some (.slice A n.ends.length c) := have_cell (by rw [hw0]; simp)
  have p01 : ∀ W, Since w0 W → W.cell? ⟨w.heap.size, 1, none⟩ = some (.slice A2 n.ids.length c2) := have_cell (by rw [hw0]; simp)
  have p02 : ∀ W, Since w0 W → W.cell? ⟨w.heap.size, 2, none⟩ = some (.slice A3 n.inputs.length c3) := have_cell (by rw [hw0]; simp)
  have Hb0 := Lib.hid hb0
  have Hw0 := Lib.hid hw0
  have HA := Lib.hid hA
  clear hA ni
  clear hb0 hw0
  obtain ⟨zz0, hc0⟩ : ∃ c : Bool, fnExactHasProperty_r0 n a1 = c := ⟨_, rfl⟩
  have Hc0 := Lib.hid hc0
  clear hc0
  obtain ⟨zz1, hc1⟩ : ∃ c : Bool, fnExactHasProperty_r1 n a1 = c := ⟨_, rfl⟩
  have Hc1 := Lib.hid hc1
  clear hc1
  go_enter Try.func3, Try.ntmps3
  go_upto_region 1 with (fail)
  rw [← Hw0.out]
  have hs0 : Since w0 w0 := since_refl _
  go_wp2_with fail
  by_cases hszn : ¬ szNet n ≤ 1048576
  · refine (szNetwork_any _ _ _ n _ (by omega) (by omega) _ H.out).mono ?_
    rw [left_bad hszn]
    rintro e W1 ⟨rfl, hb1⟩
    have HS := Lib.hid (Since.after Hb0.out hb1)
    clear hb1 hs0
    go_wp2_with fail
    go_ret
    exact ⟨rfl, HS.out⟩
  have hsz := Decidable.of_not_not hszn
  clear hszn
  obtain ⟨q, hq, hq0⟩ := left_ok hsz
  refine (szNetwork_any _ _ _ n _ (by omega) (by omega) _ H.out).mono ?_
  rw [hq]
  rintro e W1 ⟨rfl, hb1⟩
  have hs1 : Since w0 W1 := hb1
  clear hb1 hs0 hq
  go_wp2_with fail
  refine (toNetwork_any _ _ _ n _ (H.out.keep (hs1).below) hsz).mono ?_
  rintro e W2 ⟨ves, vis, vns, Ss, rfl, hos, hbs⟩
  obtain ⟨Bsa, dsa, rfl, _⟩ := id hos.read.1
  obtain ⟨Bsb, dsb, rfl, _⟩ := id hos.read.2.1
  obtain ⟨Bsc, dsc, rfl, _⟩ := id hos.read.2.2
  have hs2 : Since w0 W2 := (hs1).trans hbs
  have HNs := Lib.hid (show ∀ X, Since W2 X → NetIn X (.slice Bsa n.ends.length dsa) (.slice Bsb n.ids.length dsb) (.slice Bsc n.inputs.length dsc) n from fun X hX => hos.read.keep hX.below)
  clear hos hbs hs1
  go_wp2_with fail
  refine (fnExactHasProperty_spec _ _ _ n a1 _ (HNs.out _ (since_refl _)) ba1 hsz ).mono ?_
  simp only [Hc0.out, Hc1.out]
  rintro e W3 ⟨rfl, hbw⟩
  have hs3 : Since w0 W3 := (hs2).trans hbw
  clear hbw hs2 HNs
  have Hs4 := Lib.hid hs3
  have g00 := lift_cell p00 hs3
  have g01 := lift_cell p01 hs3
  have g02 := lift_cell p02 hs3
  have HA4 := Lib.hid (show ∀ X, Since W3 X → NetIn X (.slice A n.ends.length c) (.slice A2 n.ids.length c2) (.slice A3 n.inputs.length c3) n from fun X hX => H.out.keep (Hs4.out.after hX).below)
  have hz : Since W3 W3 := since_refl _
  clear p00 p01 p02 hs3
  go_wp2_with fail
  refine (toNetwork_any _ _ _ n _ (HA4.out _ hz) hsz).mono ?_
  rintro e W4 ⟨vex, vix, vnx, Sx, rfl, hox, hbx⟩
  obtain ⟨Bxa, dxa, rfl, _⟩ := id hox.read.1
  obtain ⟨Bxb, dxb, rfl, _⟩ := id hox.read.2.1
  obtain ⟨Bxc, dxc, rfl, _⟩ := id hox.read.2.2
  have hy : Since W3 W4 := (hz).trans hbx
  go_wp2_with fail
  obtain ⟨w6, hw6⟩ : ∃ w6, w6 = W4.alloc (.cells #[.slice Bxa n.ends.length dxa, .slice Bxb n.ids.length dxb, .slice Bxc n.inputs.length dxc] 31) := ⟨_, rfl⟩
  rw [← hw6]
  have hs56 : Since W4 w6 := by rw [hw6]; exact since_alloc _ (since_refl _)
  have hz6 : Since W3 w6 := hy.after hs56
  have x0 : ∀ X, Since w6 X → X.cell? ⟨W4.heap.size, 0, none⟩ = some (.slice Bxa n.ends.length dxa) := have_cell (by rw [hw6]; simp)
  have x1 : ∀ X, Since w6 X → X.cell? ⟨W4.heap.size, 1, none⟩ = some (.slice Bxb n.ids.length dxb) := have_cell (by rw [hw6]; simp)
  have x2 : ∀ X, Since w6 X → X.cell? ⟨W4.heap.size, 2, none⟩ = some (.slice Bxc n.inputs.length dxc) := have_cell (by rw [hw6]; simp)
  have HX := Lib.hid (show ∀ X, Since w6 X → OwnNet X W3.heap.size (.slice Bxa n.ends.length dxa) (.slice Bxb n.ids.length dxb) (.slice Bxc n.inputs.length dxc) n Sx from fun X hX => (hox.keep (hs56.after hX).below).mono (Since.below (hz)).size)
  have hsx : ∀ k ∈ Sx, W3.heap.size ≤ k ∧ k < W4.heap.size := fun k hk => ⟨Nat.le_trans (Since.below (hz)).size (hox.range k hk).1, (hox.range k hk).2⟩
  have HSx := Lib.hid hsx
  have hw56 : w6.heap.size = W4.heap.size + 1 := by rw [hw6]; simp
  have Hw56 := Lib.hid hw56
  have Hbase := Lib.hid (Since.below hz6).size
  clear hw6 hs56 hox hbx hy hsx hw56 hz
  have hz := hz6
  clear hz6
  have hx : Since w6 w6 := since_refl _
  refine (fnExactHasProperty_impl _ _ _ n a1 _ (HX.out _ hx).read ba1 hsz ).mono ?_
  simp only [Hc0.out, Hc1.out]
  rintro e W5 ⟨rfl, hb8⟩
  have hz8 := hz.trans hb8
  have hx8 := hx.trans hb8
  clear hz hx hb8 
  have hg8 : Since W5 W5 := since_refl _
  go_upto_region 10 with (fail)
  have r0 := lift_cell x0 hx8
  have r1 := lift_cell x1 hx8
  have r2 := lift_cell x2 hx8
  have q00 := lift_cell g00 hz8
  have q01 := lift_cell g01 hz8
  have q02 := lift_cell g02 hz8
  have Hz8 := Lib.hid hz8
  have Hx8 := Lib.hid hx8
  have Hg8 := Lib.hid hg8
  have HG0 := Lib.hid (And.intro x0 (And.intro x1 (And.intro x2 (And.intro g00 (And.intro g01 g02)))))
  clear x0 x1 x2 g00 g01 g02 hz8 hx8 hg8
  refine wp_region_one (w0 := W5) 2 rfl (fun W u => ∃ a b c, u = .agg #[a, b, c] ∧ NetIn W a b c n) (fun W W' u h hs => by obtain ⟨a, b, c, rfl, h⟩ := h; exact ⟨a, b, c, rfl, h.keep hs⟩) (by kernel_rfl) (by kernel_rfl) (by kernel_rfl) (by simp) (since_refl _) ?_
  simp only [List.take_succ_cons, List.take_zero, List.drop_succ_cons, List.drop_zero]
  refine pflow_val (v := ?_) rfl ?_ ?_; rotate_left; (intro W hW; go_simp; with_reducible rfl)
  simp only [Act.put, List.setIfInBounds_toArray, List.set_cons_succ, List.set_cons_zero]
  refine pflow_val (v := ?_) rfl ?_ ?_; rotate_left; (intro W hW; go_simp; with_reducible rfl)
  simp only [Act.put, List.setIfInBounds_toArray, List.set_cons_succ, List.set_cons_zero]
  refine ⟨⟨rfl, fun W hW => ?_⟩, fun u => ?_⟩
  · unfold GivesAny
    go_simp
    refine (toNetwork_any _ _ _ n W ((fun W hW => HA4.out W (Hz8.out.after hW)) W hW) hsz).mono ?_
    rintro e W' ⟨a, b, c, S, rfl, ho, hb⟩
    exact ⟨_, rfl, ⟨a, b, c, rfl, ho.read⟩, hb⟩
  simp only [Act.put, List.setIfInBounds_toArray, List.set_cons_succ, List.set_cons_zero]
  (try simp only [List.getElem_toArray, List.getElem_cons_succ, List.getElem_cons_zero])
  (try simp only [Act.put, List.setIfInBounds_toArray, List.set_cons_succ, List.set_cons_zero])
  refine flow_op (.bool true) rfl (fun W hW => ?_) ?_
  · have hS := hW.1
    have hR := Lib.hid hW.2
    clear hW
    unfold Gives
    go_simp
    obtain ⟨a, b, c, hu, hN⟩ := hR.out
    rw [hu]
    refine (eqNetwork_same _ _ _ _ _ _ n W ((fun W hW => (HX.out W (Hx8.out.after hW)).read) W hS) hN).mono ?_
    rintro e W' ⟨rfl, hb⟩
    exact ⟨rfl, hS.trans hb, a, b, c, rfl, hN.keep hb⟩
  simp only [Act.put, List.setIfInBounds_toArray, List.set_cons_succ, List.set_cons_zero]
  refine flow_val (v := .bool false) rfl (fun W hW => by go_simp) ?_
  simp only [Act.put, List.setIfInBounds_toArray, List.set_cons_succ, List.set_cons_zero]
  intro W9 hW9 _
  clear r0 r1 r2 q00 q01 q02
  obtain ⟨x0, x1, x2, g00, g01, g02⟩ := HG0.out
  have hz8 := Since.after Hz8.out hW9
  have hx8 := Since.after Hx8.out hW9
  have hg8 := Since.after Hg8.out hW9
  clear hW9 HG0 Hz8 Hx8 Hg8
  go_wp2_with fail
  go_ret
  exact ⟨rfl, Since.after Hb0.out (Hs4.out.after hz8)⟩
end Go.Proofs.Ytomnaabadohecaa
