/- Parts of the proof: walks of functions and plain laws. -/
import Derived.Test.YtlfehdikgbgloaaGreatP11
import Derived.Test.YtlfehdikgbgloaaGreatP6
import Derived.Test.YtlfehdikgbgloaaGreatP9
import Derived.Test.YtlfehdikgbgloaaGreatP4
namespace Go.Proofs.YtlfehdikgbgloaaGreat
open Go.RowKit
theorem fits_eq {s : Int} {ib : List Int} {c : Cl} (h : (c.state != s || ((c.inbox.length : Int) != (ib.length : Int))) = false) : fitsB s ib c = (List.range c.inbox.length).all (fitB ib c.inbox) ∧ c.inbox.length = ib.length := by
  simp only [Bool.or_eq_false_iff, bne_eq_false_iff_eq] at h
  unfold fitsB
  rw [h.1, h.2]
  simp
  omega
theorem fits_ne {s : Int} {ib : List Int} {c : Cl} (h : (c.state != s || ((c.inbox.length : Int) != (ib.length : Int))) = true) : fitsB s ib c = false := by
  unfold fitsB
  simp only [Bool.or_eq_true, bne_iff_ne] at h
  rcases h with h | h
  · rw [beq_eq_false_iff_ne.2 h]; simp
  · rw [beq_eq_false_iff_ne.2 h]; simp
theorem range_stop {N k : Nat} {p : Nat → Bool} (hk : k < N) (h : p k = false) : (List.range N).all p = false := by
  rw [List.all_eq_false]
  exact ⟨k, List.mem_range.2 hk, by simp [h]⟩
theorem range_snoc {k : Nat} {p : Nat → Bool} (h : (List.range k).all p = true) (hp : p k = true) : (List.range (k + 1)).all p = true := by
  rw [List.range_succ, List.all_append, h]
  simp [hp]
set_option maxRecDepth 100000 in
set_option maxHeartbeats 4000000 in
theorem maFits_any (c : Cl) (vb vs : Value) (s : Int) (ib : List Int) (w : World) (hb : IntS w vb c.inbox) (hs : IntS w vs ib) (hc : ∀ x ∈ c.inbox, -1 ≤ x) :
    Calls Tryz.prog 239 #[.agg #[.int .i64 c.state, vb, .int .i64 c.next], .int .i64 s, vs] w fun e w' => e = .returned (.bool (fitsB s ib c)) ∧ Below w.heap.size w w' := by
  obtain ⟨B, cB, rfl, hBl, hBm, _⟩ := id hb
  obtain ⟨D, cD, rfl, hDl, hDm, _⟩ := id hs
  unfold maxLen at hBm hDm
  obtain ⟨w0, hw0⟩ : ∃ w0, w0 = w.alloc (.cells #[.int .i64 c.state, .slice B c.inbox.length cB, .int .i64 c.next] 144) := ⟨_, rfl⟩
  have hb0 : Below w.heap.size w w0 := by rw [hw0]; exact below_alloc _ _
  have HB := Lib.hid (hb.keep hb0)
  have HD := Lib.hid (hs.keep hb0)
  have Hc := Lib.hid hc
  have p0 : ∀ X, Since w0 X → X.cell? ⟨w.heap.size, 0, none⟩ = some (.int .i64 c.state) := have_cell (by rw [hw0]; simp)
  have p1 : ∀ X, Since w0 X → X.cell? ⟨w.heap.size, 1, none⟩ = some (.slice B c.inbox.length cB) := have_cell (by rw [hw0]; simp)
  have Hw0 := Lib.hid hw0
  have Hb0 := Lib.hid hb0
  clear hw0 hb0 hb hs hc
  go_enter Tryz.func239, Tryz.ntmps239
  go_upto_region 1 with (fail)
  rw [← Hw0.out]
  refine wp_region_flow0 12 (Since w0) (since_refl _) ?_
  simp only [List.take_succ_cons, List.take_zero, List.drop_succ_cons, List.drop_zero]
  refine flow_val (v := ?_) rfl ?_ ?_; rotate_left; (intro W hW; go_simp; with_reducible rfl)
  simp only [Act.put, List.setIfInBounds_toArray, List.set_cons_succ, List.set_cons_zero]
  refine flow_val (v := ?_) rfl ?_ ?_; rotate_left; (intro W hW; go_simp; with_reducible rfl)
  simp only [Act.put, List.setIfInBounds_toArray, List.set_cons_succ, List.set_cons_zero]
  refine flow_val (v := ?_) rfl ?_ ?_; rotate_left; (intro W hW; go_simp; with_reducible rfl)
  simp only [Act.put, List.setIfInBounds_toArray, List.set_cons_succ, List.set_cons_zero]
  refine flow_val (v := ?_) rfl ?_ ?_; rotate_left; (intro W hW; go_simp; with_reducible rfl)
  simp only [Act.put, List.setIfInBounds_toArray, List.set_cons_succ, List.set_cons_zero]
  refine flow_val (v := ?_) rfl ?_ ?_; rotate_left; (intro W hW; go_simp; with_reducible rfl)
  simp only [Act.put, List.setIfInBounds_toArray, List.set_cons_succ, List.set_cons_zero]
  refine flow_gval (v := ?_) rfl rfl ?_ ?_; rotate_left; (intro hb; intro W hW; go_simp; with_reducible rfl)
  simp only [Act.put, List.setIfInBounds_toArray, List.set_cons_succ, List.set_cons_zero]
  refine flow_gval (v := ?_) rfl rfl ?_ ?_; rotate_left; (intro hb; intro W hW; go_simp; with_reducible rfl)
  simp only [Act.put, List.setIfInBounds_toArray, List.set_cons_succ, List.set_cons_zero]
  refine flow_gval (v := ?_) rfl rfl ?_ ?_; rotate_left; (intro hb; intro W hW; go_simp; with_reducible rfl)
  simp only [Act.put, List.setIfInBounds_toArray, List.set_cons_succ, List.set_cons_zero]
  refine flow_gval (v := ?_) rfl rfl ?_ ?_; rotate_left; (intro hb; intro W hW; go_simp; with_reducible rfl)
  simp only [Act.put, List.setIfInBounds_toArray, List.set_cons_succ, List.set_cons_zero]
  refine flow_gval (v := ?_) rfl rfl ?_ ?_; rotate_left; (intro hb; intro W hW; go_simp; with_reducible rfl)
  simp only [Act.put, List.setIfInBounds_toArray, List.set_cons_succ, List.set_cons_zero]
  refine flow_gval (v := ?_) rfl rfl ?_ ?_; rotate_left; (intro hb; intro W hW; go_simp; with_reducible rfl)
  simp only [Act.put, List.setIfInBounds_toArray, List.set_cons_succ, List.set_cons_zero]
  first | refine flow_or rfl rfl ?_ | (refine flow_val (v := ?_) rfl ?_ ?_; rotate_left; (intro W hW; go_simp; with_reducible rfl))
  simp only [Act.put, List.setIfInBounds_toArray, List.set_cons_succ, List.set_cons_zero]
  intro W hW
  cases hg : (c.state != s || ((c.inbox.length : Int) != (ib.length : Int)))
  · obtain ⟨hf, hll⟩ := fits_eq hg
    have Hf := Lib.hid hf
    have Hll := Lib.hid hll
    clear hf hll hg
    go_wp2
    clear p0 p1
    go_loopw [24] (fun i wr => ∃ k : Nat, k ≤ c.inbox.length ∧ i = .int .i64 k ∧ (List.range k).all (fitB ib c.inbox) = true ∧ Since w0 wr) (fun i _ => c.inbox.length - (intOf i).toNat)
    case atStart => exact ⟨0, Nat.zero_le _, rfl, rfl, hW⟩
    case round =>
      obtain ⟨k, hk, rfl, hal, hsr⟩ := hrel
      have Hal := Lib.hid hal
      clear hal hW
      by_cases hlt : k < c.inbox.length
      · obtain ⟨x, hx⟩ := getx c.inbox k hlt
        obtain ⟨y, hy⟩ := getx ib k (by have := Hll.out; omega)
        obtain ⟨b1, off1, hA1, hc1⟩ := ints_at HB.out hx
        obtain ⟨b2, off2, hA2, hc2⟩ := ints_at HD.out hy
        subst hA1 hA2
        have q1 := hsr.cell hc1
        have q2 := hsr.cell hc2
        have hkd : k < ib.length := lt_of_get hy
        have hx1 := Hc.out x (List.mem_of_getElem? hx)
        have Hfit := Lib.hid (show fitB ib c.inbox k = (x == -1 || x == y) by unfold fitB; rw [getD_of hx, getD_of hy])
        clear hx hy hc1 hc2
        cases hm : (x == -1 || x == y)
        · have Hr : Hid (fitsB s ib c = false) := by show _ = _; rw [Hf.out]; exact range_stop hlt (by rw [Hfit.out]; exact hm)
          simp only [Bool.or_eq_false_iff, beq_eq_false_iff_ne] at hm
          obtain ⟨m1, m2⟩ := hm
          have m3 : 0 ≤ x := by omega
          have HS := Lib.hid hsr
          have m4 : (x != y) = true := by simp [m2]
          clear m1 m2 hsr hx1
          go_wp2
          go_ret
          exact ⟨ret_false Hr.out, Since.after Hb0.out HS.out⟩
        · have Hn : Hid ((List.range (k + 1)).all (fitB ib c.inbox) = true) := range_snoc Hal.out (by rw [Hfit.out]; exact hm)
          simp only [Bool.or_eq_true, beq_iff_eq] at hm
          rcases hm with rfl | rfl
          · clear hx1
            go_wp2
            go_roundw
            case rel => exact ⟨k + 1, by omega, by go_num, Hn.out, hsr⟩
            case measure => simp [intOf]; omega
          · clear hx1
            by_cases h0 : 0 ≤ x
            · go_wp2
              go_roundw
              case rel => exact ⟨k + 1, by omega, by go_num, Hn.out, hsr⟩
              case measure => simp [intOf]; omega
            · go_wp2
              go_roundw
              case rel => exact ⟨k + 1, by omega, by go_num, Hn.out, hsr⟩
              case measure => simp [intOf]; omega
      · obtain rfl : k = c.inbox.length := by omega
        have Hr : Hid (fitsB s ib c = true) := by show _ = _; rw [Hf.out]; exact Hal.out
        have HS := Lib.hid hsr
        clear hsr
        go_wp2
        go_ret
        exact ⟨ret_true Hr.out, Since.after Hb0.out HS.out⟩
  · have Hr := Lib.hid (fits_ne hg)
    have HS := Lib.hid hW
    clear hg hW
    go_wp2
    go_ret
    exact ⟨ret_false Hr.out, Since.after Hb0.out HS.out⟩
theorem clauseB_found {m : Mac} {s : Int} {ib : List Int} {k : Nat} {c : Cl} (hk : m.clauses[k]? = some c) (hp : fitsB s ib c = true) (hn : (m.clauses.take k).any (fitsB s ib) = false) : clauseB m s ib = (k : Int) := by
  unfold clauseB
  rw [fi_found hk hp hn]
theorem clauseB_none {m : Mac} {s : Int} {ib : List Int} (hn : m.clauses.any (fitsB s ib) = false) : clauseB m s ib = -1 := by
  unfold clauseB
  rw [fi_none hn]
set_option maxRecDepth 100000 in
set_option maxHeartbeats 4000000 in
theorem maClause_any (ma mb mc md vs : Value) (m : Mac) (s : Int) (ib : List Int) (w : World) (hMa : MacIn w ma mb mc md m) (hs : IntS w vs ib) (hc : ∀ c ∈ m.clauses, ∀ x ∈ c.inbox, -1 ≤ x) :
    Calls Tryz.prog 208 #[.agg #[.int .i64 m.degree, .int .i64 m.states, .int .i64 m.messages, ma, mb, mc, md], .int .i64 s, vs] w fun e w' => e = .returned (.int .i64 (clauseB m s ib)) ∧ Below w.heap.size w w' := by
  have Hc := Lib.hid hc
  clear hc
  obtain ⟨w0, hw0⟩ : ∃ w0, w0 = (w).alloc (.cells #[.int .i64 m.degree, .int .i64 m.states, .int .i64 m.messages, ma, mb, mc, md] 62) := ⟨_, rfl⟩
  have hb0 : Below w.heap.size w w0 := by rw [hw0]; exact ((Below.refl _ _).alloc (by simp) _)
  have hkM := hMa.keep hb0
  have HM := Lib.hid hkM
  obtain ⟨M0, mz0, rfl, hlM0, hmM0, hMe0⟩ := id hkM.1
  unfold maxLen at hmM0
  have HMe0 := Lib.hid hMe0
  clear hMe0
  obtain ⟨M1, mz1, rfl, hlM1, hmM1, hMe1⟩ := id hkM.2.1
  unfold maxLen at hmM1
  have HMe1 := Lib.hid hMe1
  clear hMe1
  obtain ⟨M2, mz2, rfl, hlM2, hmM2, hMe2⟩ := id hkM.2.2.1
  unfold maxLen at hmM2
  have HMe2 := Lib.hid hMe2
  clear hMe2
  obtain ⟨M3, mz3, rfl, hlM3, hmM3, hMe3⟩ := id hkM.2.2.2
  unfold maxLen at hmM3
  have HMe3 := Lib.hid hMe3
  clear hMe3
  clear hkM hMa
  have p00 : ∀ W, Since w0 W → W.cell? ⟨w.heap.size, 0, none⟩ = some (.int .i64 m.degree) := have_cell (by rw [hw0]; simp)
  have p01 : ∀ W, Since w0 W → W.cell? ⟨w.heap.size, 1, none⟩ = some (.int .i64 m.states) := have_cell (by rw [hw0]; simp)
  have p02 : ∀ W, Since w0 W → W.cell? ⟨w.heap.size, 2, none⟩ = some (.int .i64 m.messages) := have_cell (by rw [hw0]; simp)
  have p03 : ∀ W, Since w0 W → W.cell? ⟨w.heap.size, 3, none⟩ = some (.slice M0 m.start.length mz0) := have_cell (by rw [hw0]; simp)
  have p04 : ∀ W, Since w0 W → W.cell? ⟨w.heap.size, 4, none⟩ = some (.slice M1 m.send.length mz1) := have_cell (by rw [hw0]; simp)
  have p05 : ∀ W, Since w0 W → W.cell? ⟨w.heap.size, 5, none⟩ = some (.slice M2 m.clauses.length mz2) := have_cell (by rw [hw0]; simp)
  have p06 : ∀ W, Since w0 W → W.cell? ⟨w.heap.size, 6, none⟩ = some (.slice M3 m.output.length mz3) := have_cell (by rw [hw0]; simp)
  have Hb0 := Lib.hid hb0
  have Hw0 := Lib.hid hw0
  clear hb0 hw0
  have HV := Lib.hid (hs.keep Hb0.out)
  clear hs
  have hs0 : Since w0 w0 := since_refl _
  go_enter Tryz.func208, Tryz.ntmps208
  go_upto_region 1 with (fail)
  rw [← Hw0.out]
  go_wp2
  go_loopw [12] (fun i wr => ∃ k : Nat, k ≤ m.clauses.length ∧ i = .int .i64 k ∧ (m.clauses.take k).any (fitsB s ib) = false ∧ Since w0 wr) (fun i _ => m.clauses.length - (intOf i).toNat)
  case atStart => exact ⟨0, Nat.zero_le _, rfl, rfl, hs0⟩
  case round =>
    obtain ⟨k, hk, rfl, hal, hsr⟩ := hrel
    have Hal := Lib.hid hal
    clear hal hs0
    by_cases hlt : k < m.clauses.length
    · obtain ⟨c, hcx⟩ := getx m.clauses k hlt
      obtain ⟨b1, off1, u1, hA1, hd1, hd2, hd3, hib⟩ := HMe2.out k c hcx
      subst hA1
      have q1 := hsr.cell hd1
      have q2 := hsr.cell hd2
      have q3 := hsr.cell hd3
      have Hib := Lib.hid (hib.keep hsr.below)
      obtain ⟨B, cB, rfl, hBl, hBm, _⟩ := hib
      have HS := Lib.hid hsr
      have Hcx := Lib.hid hcx
      clear hd1 hd2 hd3 hsr hcx hBl hBm
      go_wp2_with fail
      refine (maFits_any c _ _ s ib _ (Hib.out.keep (below_alloc _ _)) (HV.out.keep (HS.out.after (since_alloc _ (since_refl _))).below) (Hc.out c (List.mem_of_getElem? Hcx.out))).mono ?_
      rintro e w1 ⟨rfl, hb1⟩
      have HS1 := Lib.hid ((HS.out.after (since_alloc _ (since_refl _))).trans hb1)
      clear hb1 q1 q2 q3
      cases hf : fitsB s ib c
      · have Hn := Lib.hid (any_snoc' Hcx.out Hal.out hf)
        clear hf
        go_wp2
        go_roundw
        case rel => exact ⟨k + 1, by omega, by go_num, Hn.out, HS1.out⟩
        case measure => simp [intOf]; omega
      · have Hr := Lib.hid (clauseB_found Hcx.out hf Hal.out)
        clear hf
        go_wp2
        go_ret
        exact ⟨ret_int Hr.out.symm, Since.after Hb0.out HS1.out⟩
    · obtain rfl : k = m.clauses.length := by omega
      have Hr := Lib.hid (clauseB_none (m := m) (s := s) (ib := ib) (by have := Hal.out; rwa [List.take_length] at this))
      have HS := Lib.hid hsr
      clear hsr
      go_wp2
      go_ret
      exact ⟨ret_int Hr.out.symm, Since.after Hb0.out HS.out⟩
end Go.Proofs.YtlfehdikgbgloaaGreat
namespace Go.Proofs.YtlfehdikgbgloaaGreat
open Go.RowKit
theorem mix_set {xs ys : List Int} {k : Nat} {x : Int} (hl : xs.length = ys.length) (h : xs[k]? = some x) : (xs.take k ++ ys.drop k).set k x = xs.take (k + 1) ++ ys.drop (k + 1) := by
  have hk := lt_of_get h
  have hl1 : (xs.take k).length = k := by rw [List.length_take]; omega
  rw [List.set_append_right _ _ (by omega), hl1, Nat.sub_self, List.drop_eq_getElem_cons (by omega), List.set_cons_zero, take_snoc h, List.append_assoc]
  rfl
theorem mix_same {xs ys : List Int} {k : Nat} {x : Int} (h : xs[k]? = some x) (h' : ys[k]? = some x) : xs.take k ++ ys.drop k = xs.take (k + 1) ++ ys.drop (k + 1) := by
  have hk := lt_of_get h'
  have e : ys.drop k = x :: ys.drop (k + 1) := by
    rw [List.drop_eq_getElem_cons hk]
    congr 1
    have := (List.getElem?_eq_some_iff.1 h').2
    exact this
  rw [take_snoc h, e, List.append_assoc]
  rfl
theorem mix_at {xs ys : List Int} {k : Nat} {y : Int} (hl : xs.length = ys.length) (h : ys[k]? = some y) : (xs.take k ++ ys.drop k)[k]? = some y := by
  have hk := lt_of_get h
  have hl1 : (xs.take k).length = k := by rw [List.length_take]; omega
  rw [List.getElem?_append_right (by omega), hl1, Nat.sub_self, List.getElem?_drop, Nat.add_zero]
  exact h
theorem l1Own_every (v : Value) (xs : List Int) (w : World) (h : IntS w v xs) (h0 : 0 < xs.length) (hl : xs.length ≤ 1000000) :
    Calls Tryz.prog 69 #[v] w fun e w' => ∃ u, e = .returned u ∧ Own w' w.heap.size u xs ∧ Below w.heap.size w w' := l1Own_any v xs w h h0 (by omega)
theorem next_yes {m : Mac} {n : Net} {st : List Int} {v : Nat} {s cl o : Int} {c : Cl} {q : Nat} (hs : st[v]? = some s) (hcl : clauseB m s (inboxB m n st v) = cl) (ho : m.output[s.toNat]? = some o) (hg : (decide (0 ≤ cl) && decide (o < 0)) = true) (hq : cl = (q : Int)) (hc : m.clauses[q]? = some c) : afNext m n st v = c.next := by
  simp only [Bool.and_eq_true, decide_eq_true_eq] at hg
  unfold afNext
  rw [getD_of hs, hcl, getD_of ho, if_pos hg, hq, Int.toNat_natCast, getD_of hc]
theorem next_no {m : Mac} {n : Net} {st : List Int} {v : Nat} {s cl o : Int} (hs : st[v]? = some s) (hcl : clauseB m s (inboxB m n st v) = cl) (ho : m.output[s.toNat]? = some o) (hg : (decide (0 ≤ cl) && decide (o < 0)) = false) : afNext m n st v = s := by
  simp only [Bool.and_eq_false_iff, decide_eq_false_iff_not] at hg
  unfold afNext
  rw [getD_of hs, hcl, getD_of ho, if_neg (fun h => hg.elim (fun e => e h.1) (fun e => e h.2))]
set_option maxRecDepth 100000 in
set_option maxHeartbeats 8000000 in
theorem maStep_any (ma mb mc md ve vi vn vs : Value) (m : Mac) (n : Net) (st : List Int) (w : World) (hMa : MacIn w ma mb mc md m) (h : NetIn w ve vi vn n) (hs : IntS w vs st) (hAs : Asked m n) (hSt : StOk m n st) :
    Calls Tryz.prog 170 #[.agg #[.int .i64 m.degree, .int .i64 m.states, .int .i64 m.messages, ma, mb, mc, md], .agg #[ve, vi, vn], vs] w fun e w' => ∃ u, e = .returned u ∧ Own w' w.heap.size u (stepB m n st) ∧ Below w.heap.size w w' := by
  have hn40 := (netOk_len hAs.net).2
  have hn1 := (netOk_len hAs.net).1
  have HAs := Lib.hid hAs
  have HSt := Lib.hid hSt
  have Hsl := Lib.hid hSt.1
  clear hAs hSt
  obtain ⟨w0, hw0⟩ : ∃ w0, w0 = ((w).alloc (.cells #[.int .i64 m.degree, .int .i64 m.states, .int .i64 m.messages, ma, mb, mc, md] 62)).alloc (.cells #[ve, vi, vn] 31) := ⟨_, rfl⟩
  have hb0 : Below w.heap.size w w0 := by rw [hw0]; exact (((Below.refl _ _).alloc (by simp <;> omega) _).alloc (by simp <;> omega) _)
  have H := Lib.hid (h.keep hb0)
  obtain ⟨h1, h2, h3⟩ := h.keep hb0
  obtain ⟨A, c, rfl, hlc, hm, hA⟩ := h1
  obtain ⟨A2, c2, rfl, _, hm2, _⟩ := h2
  obtain ⟨A3, c3, rfl, _, hm3, _⟩ := h3
  unfold maxLen at hm hm2 hm3
  have hkM := hMa.keep hb0
  have HM := Lib.hid hkM
  obtain ⟨M0, mz0, rfl, hlM0, hmM0, hMe0⟩ := id hkM.1
  unfold maxLen at hmM0
  have HMe0 := Lib.hid hMe0
  clear hMe0
  obtain ⟨M1, mz1, rfl, hlM1, hmM1, hMe1⟩ := id hkM.2.1
  unfold maxLen at hmM1
  have HMe1 := Lib.hid hMe1
  clear hMe1
  obtain ⟨M2, mz2, rfl, hlM2, hmM2, hMe2⟩ := id hkM.2.2.1
  unfold maxLen at hmM2
  have HMe2 := Lib.hid hMe2
  clear hMe2
  obtain ⟨M3, mz3, rfl, hlM3, hmM3, hMe3⟩ := id hkM.2.2.2
  unfold maxLen at hmM3
  have HMe3 := Lib.hid hMe3
  clear hMe3
  clear hkM hMa
  have p00 : ∀ W, Since w0 W → W.cell? ⟨w.heap.size, 0, none⟩ = some (.int .i64 m.degree) := have_cell (by rw [hw0]; simp)
  have p01 : ∀ W, Since w0 W → W.cell? ⟨w.heap.size, 1, none⟩ = some (.int .i64 m.states) := have_cell (by rw [hw0]; simp)
  have p02 : ∀ W, Since w0 W → W.cell? ⟨w.heap.size, 2, none⟩ = some (.int .i64 m.messages) := have_cell (by rw [hw0]; simp)
  have p03 : ∀ W, Since w0 W → W.cell? ⟨w.heap.size, 3, none⟩ = some (.slice M0 m.start.length mz0) := have_cell (by rw [hw0]; simp)
  have p04 : ∀ W, Since w0 W → W.cell? ⟨w.heap.size, 4, none⟩ = some (.slice M1 m.send.length mz1) := have_cell (by rw [hw0]; simp)
  have p05 : ∀ W, Since w0 W → W.cell? ⟨w.heap.size, 5, none⟩ = some (.slice M2 m.clauses.length mz2) := have_cell (by rw [hw0]; simp)
  have p06 : ∀ W, Since w0 W → W.cell? ⟨w.heap.size, 6, none⟩ = some (.slice M3 m.output.length mz3) := have_cell (by rw [hw0]; simp)
  have p10 : ∀ W, Since w0 W → W.cell? ⟨w.heap.size + 1, 0, none⟩ = some (.slice A n.ends.length c) := have_cell (by rw [hw0]; simp)
  have p11 : ∀ W, Since w0 W → W.cell? ⟨w.heap.size + 1, 1, none⟩ = some (.slice A2 n.ids.length c2) := have_cell (by rw [hw0]; simp)
  have p12 : ∀ W, Since w0 W → W.cell? ⟨w.heap.size + 1, 2, none⟩ = some (.slice A3 n.inputs.length c3) := have_cell (by rw [hw0]; simp)
  have Hb0 := Lib.hid hb0
  have Hw0 := Lib.hid hw0
  have HA := Lib.hid hA
  clear hA h
  clear hb0 hw0
  have HV := Lib.hid (hs.keep Hb0.out)
  obtain ⟨VAS, cS, rfl, hSl, hSm, -⟩ := hs
  unfold maxLen at hSm
  have hs0 : Since w0 w0 := since_refl _
  have Hsn := Lib.hid (show (stepB m n st).length = st.length by rw [step_len, Hsl.out])
  go_enter Tryz.func170, Tryz.ntmps170
  go_upto_region 1 with (fail)
  rw [← Hw0.out]
  go_wp2_with fail
  refine (l1Own_every _ st w0 HV.out (by have := Hsl.out; omega) (by have := Hsl.out; omega)).mono ?_
  rintro e w1 ⟨u, rfl, ho, hb1⟩
  obtain ⟨AU, cU, rfl, hUl, hUm, _⟩ := id ho.ints
  unfold maxLen at hUm
  obtain ⟨g, hg⟩ : ∃ g, AU = some ⟨g, 0, none⟩ := by
    rcases ownsRow_cases ho with ⟨h0, h0'⟩ | ⟨g, cc, h0, _⟩
    · have := Hsl.out; omega
    · cases h0; exact ⟨g, rfl⟩
  subst hg
  have Ho1 := Lib.hid ho
  have HS1 := Lib.hid (hs0.trans hb1)
  clear ho hb1 hs0
  go_wp2
  go_loopw [15] (fun i wr => ∃ k : Nat, k ≤ st.length ∧ i = .int .i64 k ∧ Own wr w0.heap.size (.slice (some ⟨g, 0, none⟩) st.length cU) ((stepB m n st).take k ++ st.drop k) ∧ Since w0 wr) (fun i _ => st.length - (intOf i).toNat)
  case atStart => exact ⟨0, Nat.zero_le _, rfl, by simpa using Ho1.out, HS1.out⟩
  case round =>
    obtain ⟨k, hk, rfl, ho, hsr⟩ := hrel
    have Ho := Lib.hid ho
    clear ho
    by_cases hlt : k < st.length
    · obtain ⟨s, hsx⟩ := getx st k hlt
      obtain ⟨s1, s2⟩ := HSt.out.2 s (List.mem_of_getElem? hsx)
      obtain ⟨sN, rfl⟩ := Int.eq_ofNat_of_zero_le s1
      have hol := HAs.out.olen
      obtain ⟨o, hox⟩ := getx m.output sN (by omega)
      obtain ⟨b3, off3, hA3, hc3⟩ := ints_at HV.out hsx
      obtain ⟨b4, off4, hA4, hc4⟩ := ints_at HM.out.2.2.2 hox
      subst hA3 hA4
      have q3 := have_cell (hsr.cell hc3)
      have q4 := have_cell (hsr.cell hc4)
      have hoL := lt_of_get hox
      have Hsx := Lib.hid hsx
      have Hox := Lib.hid hox
      have t00 := lift_cell p00 hsr
      have t01 := lift_cell p01 hsr
      have t02 := lift_cell p02 hsr
      have t03 := lift_cell p03 hsr
      have t04 := lift_cell p04 hsr
      have t05 := lift_cell p05 hsr
      have t06 := lift_cell p06 hsr
      have t10 := lift_cell p10 hsr
      have t11 := lift_cell p11 hsr
      have t12 := lift_cell p12 hsr
      have hrr : Since wr wr := since_refl _
      have Hsr := Lib.hid hsr
      have hkn : k < n.ends.length := by have := Hsl.out; omega
      have Hkn := Lib.hid hkn
      have HP := Lib.hid (And.intro p00 (And.intro p01 (And.intro p02 (And.intro p03 (And.intro p04 (And.intro p05 (And.intro p06 (And.intro p10 (And.intro p11 p12)))))))))
      clear hsx hox hc3 hc4 hsr p00 p01 p02 p03 p04 p05 p06 p10 p11 p12 hkn s1 s2 hol
      go_upto_region 5 with (fail)
      refine wp_region_chain (w0 := wr) 8 [false, false, false, false, false, false, true, true] (by kernel_rfl) (by kernel_rfl) (hrr) ?_
      simp only [selF, selT, List.take_succ_cons, List.take_zero, List.drop_succ_cons, List.drop_zero]
      refine pflow_val (v := ?_) rfl ?_ ?_; rotate_left; (intro W hW; go_simp; with_reducible rfl)
      simp only [Act.put, List.setIfInBounds_toArray, List.set_cons_succ, List.set_cons_zero]
      refine pflow_val (v := ?_) rfl ?_ ?_; rotate_left; (intro W hW; go_simp; with_reducible rfl)
      simp only [Act.put, List.setIfInBounds_toArray, List.set_cons_succ, List.set_cons_zero]
      refine pflow_val (v := ?_) rfl ?_ ?_; rotate_left; (intro W hW; go_simp; with_reducible rfl)
      simp only [Act.put, List.setIfInBounds_toArray, List.set_cons_succ, List.set_cons_zero]
      refine pflow_val (v := ?_) rfl ?_ ?_; rotate_left; (intro W hW; go_simp; with_reducible rfl)
      simp only [Act.put, List.setIfInBounds_toArray, List.set_cons_succ, List.set_cons_zero]
      refine pflow_val (v := ?_) rfl ?_ ?_; rotate_left; (intro W hW; go_simp; with_reducible rfl)
      simp only [Act.put, List.setIfInBounds_toArray, List.set_cons_succ, List.set_cons_zero]
      refine pflow_val (v := ?_) rfl ?_ ?_; rotate_left; (intro W hW; go_simp; with_reducible rfl)
      simp only [Act.put, List.setIfInBounds_toArray, List.set_cons_succ, List.set_cons_zero]
      intro W hW
      refine Or.inl ⟨rfl, ?_⟩
      go_simp
      (with_reducible refine (maInbox_any _ _ _ _ _ _ _ _ m n st k W (HM.out.keep (Hsr.out.after hW).below) (H.out.keep (Hsr.out.after hW).below) (HV.out.keep (Hsr.out.after hW).below) HAs.out HSt.out Hkn.out).mono ?_)
      rintro e W' ⟨u6, rfl, ho6, hb6⟩
      refine ⟨_, rfl, hW.trans hb6, ?_⟩
      replace hW := hW.trans hb6
      have Ho6 := Lib.hid ho6.ints; clear ho6 hb6
      (try simp only [Act.put, List.setIfInBounds_toArray, List.set_cons_succ, List.set_cons_zero])
      refine Or.inl ⟨rfl, ?_⟩
      go_simp
      (with_reducible refine (maClause_any _ _ _ _ _ m (sN : Int) (inboxB m n st k) W' (HM.out.keep (Hsr.out.after hW).below) Ho6.out (fun c hc => (HAs.out.crow c hc).2.2.2)).mono ?_)
      rintro e W' ⟨rfl, hb7⟩
      refine ⟨_, rfl, hW.trans hb7, ?_⟩
      replace hW := hW.trans hb7
      skip
      (try simp only [Act.put, List.setIfInBounds_toArray, List.set_cons_succ, List.set_cons_zero])
      simp only [TFlow]
      obtain ⟨cl, hcl⟩ : ∃ cl, clauseB m (sN : Int) (inboxB m n st k) = cl := ⟨_, rfl⟩
      rw [hcl]
      have Hcl := Lib.hid hcl
      clear hcl t10 t11 t12 t00 t01 t02 t03 t04
      go_upto_region 6 with (fail)
      refine wp_region_flow0 10 (Since wr) (hW) ?_
      simp only [List.take_succ_cons, List.take_zero, List.drop_succ_cons, List.drop_zero]
      refine flow_val (v := ?_) rfl ?_ ?_; rotate_left; (intro W hW; go_simp; with_reducible rfl)
      simp only [Act.put, List.setIfInBounds_toArray, List.set_cons_succ, List.set_cons_zero]
      refine flow_val (v := ?_) rfl ?_ ?_; rotate_left; (intro W hW; go_simp; with_reducible rfl)
      simp only [Act.put, List.setIfInBounds_toArray, List.set_cons_succ, List.set_cons_zero]
      refine flow_val (v := ?_) rfl ?_ ?_; rotate_left; (intro W hW; go_simp; with_reducible rfl)
      simp only [Act.put, List.setIfInBounds_toArray, List.set_cons_succ, List.set_cons_zero]
      refine flow_gval (v := ?_) rfl rfl ?_ ?_; rotate_left; (intro hb; intro W hW; go_simp; with_reducible rfl)
      simp only [Act.put, List.setIfInBounds_toArray, List.set_cons_succ, List.set_cons_zero]
      refine flow_gval (v := ?_) rfl rfl ?_ ?_; rotate_left; (intro hb; intro W hW; go_simp; with_reducible rfl)
      simp only [Act.put, List.setIfInBounds_toArray, List.set_cons_succ, List.set_cons_zero]
      refine flow_gval (v := ?_) rfl rfl ?_ ?_; rotate_left; (intro hb; intro W hW; go_simp; with_reducible rfl)
      simp only [Act.put, List.setIfInBounds_toArray, List.set_cons_succ, List.set_cons_zero]
      refine flow_gval (v := ?_) rfl rfl ?_ ?_; rotate_left; (intro hb; intro W hW; go_simp; with_reducible rfl)
      simp only [Act.put, List.setIfInBounds_toArray, List.set_cons_succ, List.set_cons_zero]
      refine flow_gval (v := ?_) rfl rfl ?_ ?_; rotate_left; (intro hb; intro W hW; go_simp; with_reducible rfl)
      simp only [Act.put, List.setIfInBounds_toArray, List.set_cons_succ, List.set_cons_zero]
      refine flow_gval (v := ?_) rfl rfl ?_ ?_; rotate_left; (intro hb; intro W hW; go_simp; with_reducible rfl)
      simp only [Act.put, List.setIfInBounds_toArray, List.set_cons_succ, List.set_cons_zero]
      first | refine flow_and rfl rfl ?_ | (refine flow_val (v := ?_) rfl ?_ ?_; rotate_left; (intro W hW; go_simp; with_reducible rfl))
      simp only [Act.put, List.setIfInBounds_toArray, List.set_cons_succ, List.set_cons_zero]
      intro W3 hW3
      have Ho3 := Lib.hid (Own.since Ho.out hW3)
      have HS3 := Lib.hid (Hsr.out.after hW3)
      obtain ⟨p00, p01, p02, p03, p04, p05, p06, p10, p11, p12⟩ := HP.out
      cases hg : (decide (0 ≤ cl) && decide (o < 0))
      · have Hnx := Lib.hid (next_no Hsx.out Hcl.out (by rw [Int.toNat_natCast]; exact Hox.out) hg)
        clear hg hW hW3 t05 t06 q3 q4 hrr
        go_wp2
        go_roundw
        case rel => exact ⟨k + 1, by omega, by go_num, by rw [← mix_same (by rw [step_get Hkn.out, Hnx.out]) Hsx.out]; exact Ho3.out, HS3.out⟩
        case measure => simp [intOf]; omega
      · obtain ⟨hg1, hg2⟩ : 0 ≤ cl ∧ o < 0 := by simpa using hg
        obtain ⟨q, rfl⟩ := Int.eq_ofNat_of_zero_le hg1
        obtain ⟨c, hcc⟩ := clause_some Hcl.out
        have Hnx := Lib.hid (next_yes Hsx.out Hcl.out (by rw [Int.toNat_natCast]; exact Hox.out) hg rfl hcc)
        obtain ⟨b5, off5, u5', hA5, hd1, hd2, hd3, hib⟩ := HMe2.out q c hcc
        subst hA5
        have q5 := (Hsr.out.after hW3).cell hd3
        have hql := lt_of_get hcc
        have fz := Ho3.out.free k
        have cz := Ho3.out.cell (mix_at (by rw [Hsn.out]) Hsx.out)
        have z5 := p05 W3 HS3.out
        clear hcc hd1 hd2 hd3 hib hg hW t05 t06 q3 q4 hrr hg1 p00 p01 p02 p03 p04 p05 p06 p10 p11 p12 hW3
        go_wp2
        go_roundw
        case rel =>
          refine ⟨k + 1, by omega, by go_num, ?_, HS3.out.setCell (World.ownsRow.lt Ho3.out g (by simp [Value.ownBlock])).1 _⟩
          have h9 := Ho3.out.set (k := k) c.next
          rw [mix_set (by rw [Hsn.out]) (by rw [step_get Hkn.out, Hnx.out])] at h9
          exact h9
        case measure => simp [intOf]; omega
    · obtain rfl : k = st.length := by omega
      have HS := Lib.hid hsr
      have Ho9 := Lib.hid Ho.out
      clear hsr
      go_wp2
      go_ret
      refine ⟨_, rfl, ?_, Since.after Hb0.out HS.out⟩
      have h9 := Ho.out
      rw [List.take_of_length_le (by rw [Hsn.out]; exact Nat.le_refl _), List.drop_length, List.append_nil] at h9
      exact Own.mono h9 Hb0.out.size
end Go.Proofs.YtlfehdikgbgloaaGreat
namespace Go.Proofs.YtlfehdikgbgloaaGreat
open Go.RowKit
/-- a row of rows, one row more -/
theorem OwnRows.snoc {β : Type} {R : World → Nat → Value → β → List Nat → Prop} {e : TypeId} (L : RowLaw R) {w w' : World} {base g cap : Nat} {v u : Value} {xs : List β} {x : β} {S T : List Nat} (h : OwnRows e R w base v xs S) (hu : R w base u x T) (hd : ∀ j ∈ T, j ∉ S)
    (vs : List Value) (Ss : List (List Nat)) (h1 : w.ownsRow base e 1 v xs.length vs) (h2 : Ss.length = xs.length) (h3 : ∀ (k : Nat) u x T, vs[k]? = some u → xs[k]? = some x → Ss[k]? = some T → R w base u x T) (h4 : S = v.ownBlock.toList ++ Ss.flatten) (h5 : S.Nodup)
    (q1 : w'.ownsRow base e 1 (.slice (some ⟨g, 0, none⟩) (xs.length + 1) cap) (xs.length + 1) (vs ++ [u])) (q2 : w.grownBy w' v.ownBlock) (q3 : v.ownBlock = some g ∨ g = w.heap.size) :
    ∃ S', OwnRows e R w' base (.slice (some ⟨g, 0, none⟩) (xs.length + 1) cap) (xs ++ [x]) S' ∧ (∀ j ∈ S', j ∈ S ∨ j ∈ T ∨ j = w.heap.size) := by
  have hS := (rows_law e L).range h
  have hTr := L.range hu
  have hvl : vs.length = xs.length := by simpa using h1.1
  have h5' := h5
  rw [h4, List.nodup_append] at h5'
  have hin : ∀ j ∈ Ss.flatten, j ∈ S := fun j hj => by rw [h4]; exact List.mem_append_right _ hj
  have hon := Only.of_grown q2
  have hnv : ∀ j ∈ Ss.flatten, j ∉ v.ownBlock.toList := fun j hj hv => h5'.2.2 j hv j hj rfl
  have hTv : ∀ j ∈ T, j ∉ v.ownBlock.toList := fun j hj hv => hd j hj (by rw [h4]; exact List.mem_append_left _ hv)
  have hg : g ∉ Ss.flatten := fun hg => by
    rcases q3 with q3 | q3
    · exact hnv g hg (by rw [q3]; simp)
    · have := (hS g (hin g hg)).2; omega
  have hgT : g ∉ T := fun hg => by
    rcases q3 with q3 | q3
    · exact hTv g hg (by rw [q3]; simp)
    · have := (hTr g hg).2; omega
  refine ⟨[g] ++ (Ss ++ [T]).flatten, ⟨vs ++ [u], Ss ++ [T], ?_, by simp [h2], ?_, by simp [Value.ownBlock], ?_⟩, ?_⟩
  · rw [List.length_append]; exact q1
  · intro k u' x' T' hu' hx' hT'
    rcases Nat.lt_or_ge k xs.length with hk | hk
    · rw [List.getElem?_append_left (by omega)] at hu' hx' hT'
      exact L.only (h3 k u' x' T' hu' hx' hT') hon (fun j hj => hnv j (List.mem_flatten.2 ⟨T', List.mem_of_getElem? hT', hj⟩))
    · have hk1 : k = xs.length := by
        have := lt_of_get hx'
        simp at this; omega
      subst hk1
      rw [List.getElem?_append_right (Nat.le_refl _), Nat.sub_self] at hx'
      rw [← hvl, List.getElem?_append_right (Nat.le_refl _), Nat.sub_self] at hu'
      rw [← h2, List.getElem?_append_right (Nat.le_refl _), Nat.sub_self] at hT'
      simp at hu' hx' hT'
      subst hu' hx' hT'
      exact L.only hu hon hTv
  · rw [List.flatten_append, List.nodup_append]
    refine ⟨by simp, ?_, ?_⟩
    · rw [List.nodup_append]
      refine ⟨h5'.2.1, by simpa using L.nodup hu, ?_⟩
      intro a ha b hb e
      simp at hb
      subst e
      exact hd a hb (hin a ha)
    · intro a ha b hb e
      simp at ha
      subst e ha
      rcases List.mem_append.1 hb with hb | hb
      · exact hg hb
      · simp at hb; exact hgT hb
  · intro j hj
    rw [List.flatten_append] at hj
    rcases List.mem_append.1 hj with hj | hj
    · simp at hj
      subst hj
      rcases q3 with q3 | q3
      · left; rw [h4, q3]; simp
      · exact .inr (.inr q3)
    · rcases List.mem_append.1 hj with hj | hj
      · exact .inl (hin j hj)
      · simp at hj; exact .inr (.inl hj)
theorem ss_info : (Tryz.prog.info? 23).map (fun i => (i.zero, i.size, i.bytes)) = some (some (.slice none 0 0), 1, 24) := by kernel_rfl
theorem ownII_one (w : World) (base : Nat) (u : Value) (xs : List Int) (h : Own w base u xs) (hb : base ≤ w.heap.size) : OwnII (w.alloc (.cells #[u] 23)) base (.slice (some ⟨w.heap.size, 0, none⟩) 1 1) [xs] ([w.heap.size] ++ u.ownBlock.toList) := by
  have hr := World.ownsRow_lit (base := w.heap.size) (e := 23) (size := 1) w #[u] 1 (Nat.le_refl _) (by simp [maxLen]) (by simp)
  have hlt := fun j hj => World.ownsRow.lt h j hj
  refine ⟨[u], [u.ownBlock.toList], by simpa using ownsRow_mono hr hb, rfl, ?_, by simp [Value.ownBlock], ?_⟩
  · intro k u' x' T' hu hx hT
    match k, hu, hx, hT with
    | 0, hu, hx, hT =>
      simp at hu hx hT
      subst hu hx hT
      exact ⟨Own.since h (since_alloc _ (since_refl _)), rfl⟩
    | k + 1, hu, _, _ => simp at hu
  · rw [List.nodup_append]
    refine ⟨by simp, by cases u.ownBlock <;> simp, ?_⟩
    intro a ha b hb e
    simp at ha
    subst e ha
    have := (hlt _ (by simpa using hb)).2
    omega
/-- append of a row to a table of integers -/
theorem app_rowII {w : World} {ops : Array Oper} {rest : List Oper} {o : Oper} {a : Act} {Q : Exit → Act → World → Prop} (hgd : o.guard = none) (s x : Operand)
    (ho : o.op = .call { callee := .builtin .append, args := #[s, x], argTypes := #[50, 50] }) {base : Nat} {v u : Value} {xss : List (List Int)} {S : List Nat} {xs : List Int} (hs : a.eval s = v) (h : OwnII w base v xss S)
    (b : Nat) (hx : a.eval x = .slice (some ⟨b, 0, none⟩) 1 1) (hc : w.cell? ⟨b, 0, none⟩ = some u) (hu : Own w base u xs) (hd : ∀ j, u.ownBlock = some j → j ∉ S) (hl : xss.length + 1 ≤ 1000000) (hbs : base ≤ w.heap.size)
    (k : ∀ g cap w' S', OwnII w' base (.slice (some ⟨g, 0, none⟩) (xss.length + 1) cap) (xss ++ [xs]) S' → Below base w w' → wpList Tryz.prog ops Q rest (a.put o.dst (.slice (some ⟨g, 0, none⟩) (xss.length + 1) cap)) w') : wpList Tryz.prog ops Q (o :: rest) a w := by
  obtain ⟨i0, hi, hz0, hz1, hz2⟩ := info_parts ss_info
  have hvr := lawII.range h
  have h1b := h
  obtain ⟨vs, Ss, r1, r2, r3, r4, r5⟩ := h
  obtain ⟨A, m, c, rfl⟩ := lawI.one (S := u.ownBlock.toList) ⟨hu, rfl⟩
  refine wpList_append_lies w hgd s x 50 ho base 23 i0 _ 1 24 Tryz.underlying50 hi hz0 hz1 hz2 rfl (by decide) v xss.length vs hs r1 ⟨b, 0, none⟩ 1 1 [.slice A m c] hx rfl
    (by intro j u hj; match j, hj with | 0, hj => (simp at hj; subst hj; simpa [Addr.add] using hc) | j + 1, hj => simp at hj) (by simp [Value.oneCell']) (by omega) (by unfold maxLen; omega) (by omega) hbs w.heap.size rfl ?_
  intro g cap w' q1 q2 q3 q4
  obtain ⟨S', o1, -⟩ := OwnRows.snoc lawI h1b (T := (Value.slice A m c).ownBlock.toList) ⟨hu, rfl⟩ (fun j hj => hd j (by simpa using hj)) vs Ss r1 r2 r3 r4 r5 q1 q2 q3
  exact k g cap w' S' o1 (Below.grown (Below.refl base w |>.mono (Nat.le_refl _)) q2 hbs (fun q hq => (hvr q (by rw [r4, hq]; simp)).1))
end Go.Proofs.YtlfehdikgbgloaaGreat
namespace Go.Proofs.YtlfehdikgbgloaaGreat
open Go.RowKit
set_option maxRecDepth 100000 in
set_option maxHeartbeats 8000000 in
theorem maRun_any (ma mb mc md ve vi vn : Value) (m : Mac) (n : Net) (r : Nat) (w : World) (hMa : MacIn w ma mb mc md m) (h : NetIn w ve vi vn n) (hAs : Asked m n) (hr : r ≤ 40) :
    Calls Tryz.prog 106 #[.agg #[.int .i64 m.degree, .int .i64 m.states, .int .i64 m.messages, ma, mb, mc, md], .agg #[ve, vi, vn], .int .i64 r] w fun e w' => ∃ u S, e = .returned u ∧ OwnII w' w.heap.size u (runL m n (r + 1)) S ∧ Below w.heap.size w w' := by
  have HAs := Lib.hid hAs
  clear hAs
  obtain ⟨w0, hw0⟩ : ∃ w0, w0 = ((w).alloc (.cells #[.int .i64 m.degree, .int .i64 m.states, .int .i64 m.messages, ma, mb, mc, md] 62)).alloc (.cells #[ve, vi, vn] 31) := ⟨_, rfl⟩
  have hb0 : Below w.heap.size w w0 := by rw [hw0]; exact (((Below.refl _ _).alloc (by simp <;> omega) _).alloc (by simp <;> omega) _)
  have H := Lib.hid (h.keep hb0)
  obtain ⟨h1, h2, h3⟩ := h.keep hb0
  obtain ⟨A, c, rfl, hlc, hm, hA⟩ := h1
  obtain ⟨A2, c2, rfl, _, hm2, _⟩ := h2
  obtain ⟨A3, c3, rfl, _, hm3, _⟩ := h3
  unfold maxLen at hm hm2 hm3
  have hkM := hMa.keep hb0
  have HM := Lib.hid hkM
  obtain ⟨M0, mz0, rfl, hlM0, hmM0, hMe0⟩ := id hkM.1
  unfold maxLen at hmM0
  have HMe0 := Lib.hid hMe0
  clear hMe0
  obtain ⟨M1, mz1, rfl, hlM1, hmM1, hMe1⟩ := id hkM.2.1
  unfold maxLen at hmM1
  have HMe1 := Lib.hid hMe1
  clear hMe1
  obtain ⟨M2, mz2, rfl, hlM2, hmM2, hMe2⟩ := id hkM.2.2.1
  unfold maxLen at hmM2
  have HMe2 := Lib.hid hMe2
  clear hMe2
  obtain ⟨M3, mz3, rfl, hlM3, hmM3, hMe3⟩ := id hkM.2.2.2
  unfold maxLen at hmM3
  have HMe3 := Lib.hid hMe3
  clear hMe3
  clear hkM hMa
  have p00 : ∀ W, Since w0 W → W.cell? ⟨w.heap.size, 0, none⟩ = some (.int .i64 m.degree) := have_cell (by rw [hw0]; simp)
  have p01 : ∀ W, Since w0 W → W.cell? ⟨w.heap.size, 1, none⟩ = some (.int .i64 m.states) := have_cell (by rw [hw0]; simp)
  have p02 : ∀ W, Since w0 W → W.cell? ⟨w.heap.size, 2, none⟩ = some (.int .i64 m.messages) := have_cell (by rw [hw0]; simp)
  have p03 : ∀ W, Since w0 W → W.cell? ⟨w.heap.size, 3, none⟩ = some (.slice M0 m.start.length mz0) := have_cell (by rw [hw0]; simp)
  have p04 : ∀ W, Since w0 W → W.cell? ⟨w.heap.size, 4, none⟩ = some (.slice M1 m.send.length mz1) := have_cell (by rw [hw0]; simp)
  have p05 : ∀ W, Since w0 W → W.cell? ⟨w.heap.size, 5, none⟩ = some (.slice M2 m.clauses.length mz2) := have_cell (by rw [hw0]; simp)
  have p06 : ∀ W, Since w0 W → W.cell? ⟨w.heap.size, 6, none⟩ = some (.slice M3 m.output.length mz3) := have_cell (by rw [hw0]; simp)
  have p10 : ∀ W, Since w0 W → W.cell? ⟨w.heap.size + 1, 0, none⟩ = some (.slice A n.ends.length c) := have_cell (by rw [hw0]; simp)
  have p11 : ∀ W, Since w0 W → W.cell? ⟨w.heap.size + 1, 1, none⟩ = some (.slice A2 n.ids.length c2) := have_cell (by rw [hw0]; simp)
  have p12 : ∀ W, Since w0 W → W.cell? ⟨w.heap.size + 1, 2, none⟩ = some (.slice A3 n.inputs.length c3) := have_cell (by rw [hw0]; simp)
  have Hb0 := Lib.hid hb0
  have Hw0 := Lib.hid hw0
  have HA := Lib.hid hA
  clear hA h
  clear hb0 hw0
  have hs0 : Since w0 w0 := since_refl _
  go_enter Tryz.func106, Tryz.ntmps106
  go_upto_region 1 with (fail)
  rw [← Hw0.out]
  go_wp2_with fail
  refine (maStart_any _ _ _ _ _ _ _ m n w0 HM.out H.out HAs.out).mono ?_
  rintro e w1 ⟨u, rfl, ho, hb1⟩
  obtain ⟨AU, cU, rfl, hUl, hUm, _⟩ := id ho.ints
  have Ho1 := Lib.hid (ownII_one w1 w0.heap.size _ _ ho hb1.size)
  have HS1 := Lib.hid ((hs0.trans hb1).after (since_alloc (.cells #[.slice AU (startB m n).length cU] 23) (since_refl w1)))
  clear ho hb1 hs0
  go_wp2
  go_loopw [7, 8] (fun u i wr => ∃ (k g cc : Nat) (S : List Nat), k ≤ r ∧ i = .int .i64 k ∧ u = .slice (some ⟨g, 0, none⟩) (k + 1) cc ∧ OwnII wr w0.heap.size (.slice (some ⟨g, 0, none⟩) (k + 1) cc) (runL m n (k + 1)) S ∧ Since w0 wr) (fun _ i _ => r - (intOf i).toNat)
  case atStart => exact ⟨0, _, _, _, Nat.zero_le _, rfl, rfl, Ho1.out, HS1.out⟩
  case round =>
    obtain ⟨k, g, cc, S, hk, rfl, rfl, ho, hsr⟩ := hrel
    have Ho := Lib.hid ho
    by_cases hlt : k < r
    · have hrow := runL_get (m := m) (n := n) (k := k + 1) (j := k) (by omega)
      obtain ⟨ur, T, hcr, -, hR, -, -, -⟩ := OwnRows.at_ ho hrow
      obtain ⟨AR, cR, rfl, hRl, hRm, _⟩ := id hR.1.ints
      unfold maxLen at hRm
      have hlr : (runA m n k).length = n.ends.length := (run_ok HAs.out k).1
      have hcl : k + 1 ≤ cc := by
        obtain ⟨vs, Ss, r1, _⟩ := ho
        rcases ownsRow_cases r1 with ⟨h0, _⟩ | ⟨g', c', h0, _, _, h3, _⟩
        · cases h0
        · rw [runL_len] at h0; cases h0; rw [runL_len] at h3; exact h3
      have hcm : cc ≤ 9223372036854775807 := by
        obtain ⟨vs, Ss, r1, _⟩ := ho
        rcases ownsRow_cases r1 with ⟨h0, _⟩ | ⟨g', c', h0, _, _, _, h4⟩
        · cases h0
        · rw [runL_len] at h0; cases h0; unfold maxLen at h4; omega
      have q1 := have_cell hcr
      have HR := Lib.hid (show ∀ X, Since wr X → IntS X (.slice AR (runA m n k).length cR) (runA m n k) from fun X hX => hR.1.ints.keep hX.below)
      have Hsr := Lib.hid hsr
      have t00 := lift_cell p00 hsr
      have t01 := lift_cell p01 hsr
      have t02 := lift_cell p02 hsr
      have t03 := lift_cell p03 hsr
      have t04 := lift_cell p04 hsr
      have t05 := lift_cell p05 hsr
      have t06 := lift_cell p06 hsr
      have t10 := lift_cell p10 hsr
      have t11 := lift_cell p11 hsr
      have t12 := lift_cell p12 hsr
      have hrr : Since wr wr := since_refl _
      have hkk : (k : Int) < (k : Int) + 1 := by omega
      have HP := Lib.hid (And.intro p00 (And.intro p01 (And.intro p02 (And.intro p03 (And.intro p04 (And.intro p05 (And.intro p06 (And.intro p10 (And.intro p11 p12)))))))))
      have Hlr := Lib.hid hlr
      clear p00 p01 p02 p03 p04 p05 p06 p10 p11 p12 hsr ho hrow hcr hR hlr
      go_upto_region 5 with (fail)
      refine wp_region_chain0 (w0 := wr) 9 [false, false, false, false, false, false, false, true, true] (by kernel_rfl) (by kernel_rfl) (hrr) ?_
      simp only [selF, selT, List.take_succ_cons, List.take_zero, List.drop_succ_cons, List.drop_zero]
      refine pflow_val (v := ?_) rfl ?_ ?_; rotate_left; (intro W hW; go_simp; with_reducible rfl)
      simp only [Act.put, List.setIfInBounds_toArray, List.set_cons_succ, List.set_cons_zero]
      refine pflow_val (v := ?_) rfl ?_ ?_; rotate_left; (intro W hW; go_simp; with_reducible rfl)
      simp only [Act.put, List.setIfInBounds_toArray, List.set_cons_succ, List.set_cons_zero]
      refine pflow_val (v := ?_) rfl ?_ ?_; rotate_left; (intro W hW; go_simp; with_reducible rfl)
      simp only [Act.put, List.setIfInBounds_toArray, List.set_cons_succ, List.set_cons_zero]
      refine pflow_val (v := ?_) rfl ?_ ?_; rotate_left; (intro W hW; go_simp; with_reducible rfl)
      simp only [Act.put, List.setIfInBounds_toArray, List.set_cons_succ, List.set_cons_zero]
      refine pflow_val (v := ?_) rfl ?_ ?_; rotate_left; (intro W hW; go_simp; with_reducible rfl)
      simp only [Act.put, List.setIfInBounds_toArray, List.set_cons_succ, List.set_cons_zero]
      refine pflow_val (v := ?_) rfl ?_ ?_; rotate_left; (intro W hW; go_simp; with_reducible rfl)
      simp only [Act.put, List.setIfInBounds_toArray, List.set_cons_succ, List.set_cons_zero]
      refine pflow_val (v := ?_) rfl ?_ ?_; rotate_left; (intro W hW; go_simp; with_reducible rfl)
      simp only [Act.put, List.setIfInBounds_toArray, List.set_cons_succ, List.set_cons_zero]
      obtain ⟨W, hWd⟩ : ∃ W, W = World.drew wr := ⟨_, rfl⟩
      rw [← hWd]
      have hW : Since wr W := by rw [hWd]; exact since_drew (hrr)
      refine Or.inl ⟨rfl, ?_⟩
      go_simp
      (with_reducible refine (maStep_any _ _ _ _ _ _ _ _ m n (runA m n k) _ (HM.out.keep (Hsr.out.after (since_drew (since_refl _))).below) (H.out.keep (Hsr.out.after (since_drew (since_refl _))).below) (HR.out _ (since_drew (since_refl _))) HAs.out (run_ok HAs.out k)).mono ?_)
      rintro e W' ⟨un, rfl, hon, hbn⟩
      refine ⟨_, rfl, (since_drew (since_refl _)).trans hbn, ?_⟩
      replace hW := (since_drew (since_refl _)).trans hbn
      obtain ⟨AN, cN, rfl, _⟩ := id hon.ints
      have HdN : Hid (∀ j, (Value.slice AN (stepB m n (runA m n k)).length cN).ownBlock = some j → j ∉ S) := (fun j hj hS => by have h1 : wr.heap.size ≤ j := (World.ownsRow.lt hon j hj).1; have := (lawII.range Ho.out j hS).2; omega)
      have Hon := Lib.hid (Own.mono hon Hsr.out.below.size)
      clear hon hbn
      (try simp only [Act.put, List.setIfInBounds_toArray, List.set_cons_succ, List.set_cons_zero])
      (try have HWd := Lib.hid hWd)
      (try clear hWd)
      refine tflow_alloc (v := ?_) (ob := ?_) rfl ?_ hW ?_; rotate_left 2
      (go_simp; first | with_reducible rfl | (refine ⟨?_, ?_⟩ <;> with_reducible rfl))
      intro w8 hw8d hw8s
      replace hW := hw8s
      clear hw8s
      have Hon8 : Hid (Own w8 w0.heap.size (.slice AN (stepB m n (runA m n k)).length cN) (stepB m n (runA m n k))) := by show Own _ _ _ _; rw [hw8d]; exact Own.since Hon.out (since_alloc _ (since_refl _))
      have Hc8 : Hid (w8.cell? ⟨W'.heap.size, 0, none⟩ = some (.slice AN (stepB m n (runA m n k)).length cN)) := by show _ = _; rw [hw8d]; exact cell_new _ _ _
      clear hw8d
      (try simp only [Act.put, List.setIfInBounds_toArray, List.set_cons_succ, List.set_cons_zero])
      simp only [TFlow]
      have Ho8 := Lib.hid (lawII.keep Ho.out hW.below)
      have HS8 := Lib.hid (Hsr.out.after hW)
      have Hl8 : Hid ((runL m n (k + 1)).length + 1 ≤ 1000000) := by show _ ≤ _; rw [runL_len]; omega
      have hrl : (runL m n (k + 1)).length = k + 1 := runL_len m n (k + 1)
      have Hrl := Lib.hid hrl
      clear t00 t01 t02 t03 t04 t05 t06 t10 t11 t12 hrr hW q1 hkk hrl
      go_wp2_with (at_builtin; refine app_rowII rfl _ _ rfl rfl Ho8.out W'.heap.size rfl Hc8.out Hon8.out HdN.out Hl8.out HS8.out.below.size ?_; intro g9 cc9 w9 S9 ho9 hb9)
      have Ho9 := Lib.hid ho9
      have HS9 := Lib.hid (show Since w0 w9 from Below.trans HS8.out hb9)
      clear ho9 hb9
      rw [Hrl.out]
      go_wp2
      go_roundw
      case rel =>
        have h9 := Ho9.out
        rw [Hrl.out] at h9
        refine ⟨k + 1, g9, cc9, S9, by omega, by go_num, rfl, ?_, HS9.out⟩
        rw [runL_snoc m n (k + 1)]
        exact h9
      case measure => simp [intOf]; omega
    · obtain rfl : k = r := by omega
      have HS := Lib.hid hsr
      clear hsr
      go_wp2
      go_ret
      exact ⟨_, S, rfl, lawII.mono Ho.out Hb0.out.size, Since.after Hb0.out HS.out⟩
end Go.Proofs.YtlfehdikgbgloaaGreat
