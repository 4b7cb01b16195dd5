import Derived.Test.YtlfehdikgbgloaaGreatLegD
namespace Go.Proofs.YtlfehdikgbgloaaGreat
open Go.RowKit
theorem edge_at {n : Net} (hn : netOk n = true) (hp : plainB n = true) {x : Ed} (hx : x ∈ edgesB n) : ∃ v i w j : Nat, x = ((v : Int), (i : Int), (w : Int), (j : Int)) ∧ v < n.ends.length ∧ w < n.ends.length ∧ v < w ∧ i < 6 ∧ j < 6 := by
  obtain ⟨v, i, hv, hi, hk, rfl⟩ := edges_mem hx
  obtain ⟨w, j, e1, hw, hj, e2⟩ := row_back hn hv hi
  rw [e1] at hk ⊢
  have hne : w ≠ v := fun e => by
    subst e
    refine plain_row hp hv (w : Int) ?_ rfl
    unfold bsee
    rw [Int.toNat_natCast]
    refine List.mem_map.2 ⟨(rowOf n w).getD i (0, 0), ?_, by rw [e1]⟩
    show (rowOf n w).getD i (0, 0) ∈ rowOf n w
    rw [List.getD_eq_getElem?_getD, List.getElem?_eq_getElem hi]
    exact List.getElem_mem hi
  have h1 := (row_net hn hv).2.1
  have h2 := (row_net hn hw).2.1
  refine ⟨v, i, w, j, rfl, hv, hw, ?_, by omega, by omega⟩
  unfold keepE at hk
  simp only [Bool.or_eq_true, Bool.and_eq_true, decide_eq_true_eq, beq_iff_eq] at hk
  omega
theorem ownD_oth {W : World} {base b k : Nat} {u : Value} {xs : List Ed} (h : OwnD W base u xs) (hd : u.ownBlock ≠ some b) (v : Value) : OwnD (W.setCell ⟨b, k, none⟩ v) base u xs :=
  ownsRow_stable h fun j hj => Below.heap_setCell W _ v j (fun e => hd (by simp at hj; rw [hj, e]))
theorem mat_len {f : List Int → Ed → List Int} (hf : ∀ m e, (f m e).length = m.length) : ∀ (es : List Ed) (m : List Int), (es.foldl f m).length = m.length
  | [], _ => rfl
  | e :: es, m => by rw [List.foldl_cons, mat_len hf es, hf]
set_option maxRecDepth 100000 in
set_option maxHeartbeats 3200000 in
theorem GreedyMatching_any (ve vi vn : Value) (n : Net) (w : World) (h : NetIn w ve vi vn n) (hn : netOk n = true) (hp : plainB n = true) (hsz : szNet n ≤ 1048576) :
    Calls Tryz.prog 80 #[.agg #[ve, vi, vn]] w fun e w' => ∃ u, e = .returned (.tuple #[u, .bool true]) ∧ Own w' w.heap.size u (gmatB n) ∧ Below w.heap.size w w' := by
  have hnl := netOk_len hn
  obtain ⟨w0, hw0⟩ : ∃ w0, w0 = (w).alloc (.cells #[ve, vi, vn] 31) := ⟨_, rfl⟩
  have hb0 : Below w.heap.size w w0 := by rw [hw0]; exact ((Below.refl _ _).alloc (by simp) _)
  have H := Lib.hid (h.keep hb0)
  obtain ⟨h1, h2, h3⟩ := h.keep hb0
  obtain ⟨A, c, rfl, hlc, hm, hA⟩ := h1
  obtain ⟨A2, c2, rfl, _, hm2, _⟩ := h2
  obtain ⟨A3, c3, rfl, _, hm3, _⟩ := h3
  unfold maxLen at hm hm2 hm3
  have p00 : ∀ W, Since w0 W → W.cell? ⟨w.heap.size, 0, none⟩ = some (.slice A n.ends.length c) := have_cell (by rw [hw0]; simp)
  have p01 : ∀ W, Since w0 W → W.cell? ⟨w.heap.size, 1, none⟩ = some (.slice A2 n.ids.length c2) := have_cell (by rw [hw0]; simp)
  have p02 : ∀ W, Since w0 W → W.cell? ⟨w.heap.size, 2, none⟩ = some (.slice A3 n.inputs.length c3) := have_cell (by rw [hw0]; simp)
  have Hb0 := Lib.hid hb0
  have Hw0 := Lib.hid hw0
  have HA := Lib.hid hA
  clear hA h
  clear hb0 hw0
  have Hn := Lib.hid hn
  have Hp := Lib.hid hp
  obtain ⟨es, hes⟩ : ∃ es, es = edgesB n := ⟨_, rfl⟩
  have HG : Hid (gmatB n = es.foldl mImpl (List.replicate n.ends.length (-1))) := by show _ = _; unfold gmatB; rw [← hes]
  have Hea : Hid (∀ x ∈ es, ∃ v i w j : Nat, x = ((v : Int), (i : Int), (w : Int), (j : Int)) ∧ v < n.ends.length ∧ w < n.ends.length ∧ v < w ∧ i < 6 ∧ j < 6) := fun x hx => edge_at hn hp (by rw [← hes]; exact hx)
  have HE : Hid (∀ W, Since w0 W → Calls Tryz.prog 93 #[.agg #[.slice A n.ends.length c, .slice A2 n.ids.length c2, .slice A3 n.inputs.length c3]] W fun e w' => ∃ u, e = .returned u ∧ OwnD w' W.heap.size u es ∧ Below W.heap.size W w') := fun W hW => by
    rw [hes]; exact edges_any _ _ _ n W (H.out.keep hW.below) hn
  have hs0 : Since w0 w0 := since_refl _
  clear hn hp hes
  go_enter Tryz.func80, Tryz.ntmps80
  go_upto_region 1 with (fail)
  rw [← Hw0.out]
  go_wp2_with fail
  refine (isNetwork_any _ _ _ n w0 H.out (szNet_ids hsz)).mono ?_
  rw [Hn.out]
  rintro e w1 ⟨rfl, hb1⟩
  have hs1 : Since w0 w1 := hb1
  clear hb1 hs0
  go_wp2_with fail
  refine (noMatching_any _ _ _ n w1 (H.out.keep hs1.below) hnl.1 (by omega)).mono ?_
  rintro e w2 ⟨u2, rfl, ho2, hb2⟩
  have hs2 : Since w0 w2 := hs1.trans hb2
  rcases ho2.cases with ⟨-, e1⟩ | ⟨g, c1, rfl, hg1, hg2⟩
  · have := congrArg List.length e1; rw [List.length_replicate, List.length_nil] at this; omega
  rw [List.length_replicate] at ho2 ⊢
  have hgw : w0.heap.size ≤ g := Nat.le_trans (Since.below hs1).size hg1
  have Ho2 := Lib.hid (ho2.mono (Since.below hs1).size)
  clear ho2 hb2 hs1 hg1
  go_wp2_with fail
  refine (HE.out w2 hs2).mono ?_
  rintro e w3 ⟨u3, rfl, ho3, hb3⟩
  have hs3 : Since w0 w3 := hs2.trans hb3
  have Ho3 := Lib.hid (Ho2.out.keep hb3)
  have hne3 : u3.ownBlock ≠ some g := fun e => by
    have h1 := (World.ownsRow.lt ho3 g e).1
    omega
  obtain ⟨B3, d3, rfl, hmd3, hld3, _⟩ := OwnD.read ho3
  unfold maxLen at hmd3
  have HoD := Lib.hid (ho3.mono (Since.below hs2).size)
  have Hne3 := Lib.hid hne3
  clear hb3 ho3 hs2 hne3
  go_wp2
  go_loopw [15] (fun i wr => ∃ (k : Nat) (m : List Int), k ≤ es.length ∧ i = .int .i64 k ∧ m = (es.take k).foldl mImpl (List.replicate n.ends.length (-1)) ∧ Own wr w0.heap.size (.slice (some ⟨g, 0, none⟩) n.ends.length c1) m ∧ OwnD wr w0.heap.size (.slice B3 es.length d3) es ∧ Since w0 wr) (fun i _ => es.length - (intOf i).toNat)
  case atStart => exact ⟨0, _, Nat.zero_le _, rfl, rfl, Ho3.out, HoD.out, hs3⟩
  case round =>
    obtain ⟨k, m, hk, rfl, hm, ho, hod, hsr⟩ := hrel
    have Hm := Lib.hid hm
    have Ho := Lib.hid ho
    have HoD := Lib.hid hod
    have Hml := Lib.hid ho.len
    clear hm ho hod hs3
    by_cases hlt : k < es.length
    · obtain ⟨x, hx⟩ : ∃ x, es[k]? = some x := ⟨_, List.getElem?_eq_getElem hlt⟩
      obtain ⟨v, i, q, j, rfl, hv, hq, hvq, hi6, hj6⟩ := Hea.out x (List.mem_of_getElem? hx)
      obtain ⟨_, _, eB, _, _, hcell⟩ := OwnD.read HoD.out
      cases eB
      obtain ⟨b, rfl, k0, k1, k2, k3⟩ := hcell k _ hx
      simp only at k0 k1 k2 k3
      have m3 : IntKind.i64.wrap ((k : Int) + 1) = (k : Int) + 1 := wr64 _ (by omega) (by omega)
      obtain ⟨mv, hmv⟩ := getx m v (by rw [Hml.out]; exact hv)
      obtain ⟨mq, hmq⟩ := getx m q (by rw [Hml.out]; exact hq)
      have hvl : v < n.ends.length := hv
      have Hnx : Hid ((es.take (k + 1)).foldl mImpl (List.replicate n.ends.length (-1)) = if mv < 0 ∧ mq < 0 then (m.set v (i : Int)).set q (j : Int) else m) := by
        show _ = _
        rw [take_snoc hx, List.foldl_append, ← Hm.out]
        show mImpl m _ = _
        unfold mImpl
        simp only [Int.toNat_natCast]
        rw [getD_of hmv, getD_of hmq]
        by_cases hc : mv < 0 ∧ mq < 0
        · rw [if_pos ⟨by omega, hc⟩, if_pos hc]
        · rw [if_neg (fun hh => hc hh.2), if_neg hc]
      obtain ⟨w5, hw5⟩ : ∃ w5, w5 = wr.alloc (.cells #[.int .i64 v, .int .i64 i, .int .i64 q, .int .i64 j] 112) := ⟨_, rfl⟩
      have hs5 : Since wr w5 := by rw [hw5]; exact since_alloc _ (since_refl _)
      have z0 : ∀ W, Since w5 W → W.cell? ⟨wr.heap.size, 0, none⟩ = some (.int .i64 v) := have_cell (by rw [hw5]; simp)
      have z1 : ∀ W, Since w5 W → W.cell? ⟨wr.heap.size, 1, none⟩ = some (.int .i64 i) := have_cell (by rw [hw5]; simp)
      have z2 : ∀ W, Since w5 W → W.cell? ⟨wr.heap.size, 2, none⟩ = some (.int .i64 q) := have_cell (by rw [hw5]; simp)
      have z3 : ∀ W, Since w5 W → W.cell? ⟨wr.heap.size, 3, none⟩ = some (.int .i64 j) := have_cell (by rw [hw5]; simp)
      have Hw5 := Lib.hid hw5
      have Ho5 := Lib.hid (Ho.out.since hs5)
      have HoD5 := Lib.hid (HoD.out.keep hs5)
      have d1 : ∀ W, Since w5 W → W.cell? ⟨g, v, none⟩ = some (.int .i64 mv) := have_cell (Ho5.out.cell hmv)
      have d2 : ∀ W, Since w5 W → W.cell? ⟨g, q, none⟩ = some (.int .i64 mq) := have_cell (Ho5.out.cell hmq)
      have Hs5 := Lib.hid (hsr.after hs5)
      have hgr : g < wr.heap.size := (World.ownsRow.lt Ho.out g rfl).2
      clear hx hmv hmq hw5 hs5
      go_upto_region 7 with (fail)
      rw [← Hw5.out]
      clear k0 k1 k2 k3 hsr
      refine wp_region_flow0 21 (Since w5) (since_refl _) ?_
      simp only [List.take_succ_cons, List.take_zero, List.drop_succ_cons, List.drop_zero]
      refine flow_val (v := ?_) rfl ?_ ?_; rotate_left; (intro W hW; go_simp; with_reducible rfl)
      simp only [Act.put, List.setIfInBounds_toArray, List.set_cons_succ, List.set_cons_zero]
      refine flow_val (v := ?_) rfl ?_ ?_; rotate_left; (intro W hW; go_simp; with_reducible rfl)
      simp only [Act.put, List.setIfInBounds_toArray, List.set_cons_succ, List.set_cons_zero]
      refine flow_val (v := ?_) rfl ?_ ?_; rotate_left; (intro W hW; go_simp; with_reducible rfl)
      simp only [Act.put, List.setIfInBounds_toArray, List.set_cons_succ, List.set_cons_zero]
      refine flow_val (v := ?_) rfl ?_ ?_; rotate_left; (intro W hW; go_simp; with_reducible rfl)
      simp only [Act.put, List.setIfInBounds_toArray, List.set_cons_succ, List.set_cons_zero]
      refine flow_val (v := ?_) rfl ?_ ?_; rotate_left; (intro W hW; go_simp; with_reducible rfl)
      simp only [Act.put, List.setIfInBounds_toArray, List.set_cons_succ, List.set_cons_zero]
      refine flow_val (v := ?_) rfl ?_ ?_; rotate_left; (intro W hW; go_simp; with_reducible rfl)
      simp only [Act.put, List.setIfInBounds_toArray, List.set_cons_succ, List.set_cons_zero]
      refine flow_gval (v := ?_) rfl rfl ?_ ?_; rotate_left; (intro hb W hW; go_simp; with_reducible rfl)
      simp only [Act.put, List.setIfInBounds_toArray, List.set_cons_succ, List.set_cons_zero]
      refine flow_gval (v := ?_) rfl rfl ?_ ?_; rotate_left; (intro hb W hW; go_simp; with_reducible rfl)
      simp only [Act.put, List.setIfInBounds_toArray, List.set_cons_succ, List.set_cons_zero]
      refine flow_gval (v := ?_) rfl rfl ?_ ?_; rotate_left; (intro hb W hW; go_simp; with_reducible rfl)
      simp only [Act.put, List.setIfInBounds_toArray, List.set_cons_succ, List.set_cons_zero]
      refine flow_gval (v := ?_) rfl rfl ?_ ?_; rotate_left; (intro hb W hW; go_simp; with_reducible rfl)
      simp only [Act.put, List.setIfInBounds_toArray, List.set_cons_succ, List.set_cons_zero]
      refine flow_gval (v := ?_) rfl rfl ?_ ?_; rotate_left; (intro hb W hW; go_simp; with_reducible rfl)
      simp only [Act.put, List.setIfInBounds_toArray, List.set_cons_succ, List.set_cons_zero]
      refine flow_gval (v := ?_) rfl rfl ?_ ?_; rotate_left; (intro hb W hW; go_simp; with_reducible rfl)
      simp only [Act.put, List.setIfInBounds_toArray, List.set_cons_succ, List.set_cons_zero]
      first | refine flow_and rfl rfl ?_ | (refine flow_val (v := ?_) rfl ?_ ?_; rotate_left; (intro W hW; go_simp; with_reducible rfl))
      simp only [Act.put, List.setIfInBounds_toArray, List.set_cons_succ, List.set_cons_zero]
      refine flow_val (v := ?_) rfl ?_ ?_; rotate_left; (intro W hW; go_simp; with_reducible rfl)
      simp only [Act.put, List.setIfInBounds_toArray, List.set_cons_succ, List.set_cons_zero]
      refine flow_gval (v := ?_) rfl rfl ?_ ?_; rotate_left; (intro hb W hW; go_simp; with_reducible rfl)
      simp only [Act.put, List.setIfInBounds_toArray, List.set_cons_succ, List.set_cons_zero]
      refine flow_gval (v := ?_) rfl rfl ?_ ?_; rotate_left; (intro hb W hW; go_simp; with_reducible rfl)
      simp only [Act.put, List.setIfInBounds_toArray, List.set_cons_succ, List.set_cons_zero]
      refine flow_gval (v := ?_) rfl rfl ?_ ?_; rotate_left; (intro hb W hW; go_simp; with_reducible rfl)
      simp only [Act.put, List.setIfInBounds_toArray, List.set_cons_succ, List.set_cons_zero]
      refine flow_gval (v := ?_) rfl rfl ?_ ?_; rotate_left; (intro hb W hW; go_simp; with_reducible rfl)
      simp only [Act.put, List.setIfInBounds_toArray, List.set_cons_succ, List.set_cons_zero]
      refine flow_gval (v := ?_) rfl rfl ?_ ?_; rotate_left; (intro hb W hW; go_simp; with_reducible rfl)
      simp only [Act.put, List.setIfInBounds_toArray, List.set_cons_succ, List.set_cons_zero]
      refine flow_gval (v := ?_) rfl rfl ?_ ?_; rotate_left; (intro hb W hW; go_simp; with_reducible rfl)
      simp only [Act.put, List.setIfInBounds_toArray, List.set_cons_succ, List.set_cons_zero]
      first | refine flow_and rfl rfl ?_ | (refine flow_val (v := ?_) rfl ?_ ?_; rotate_left; (intro W hW; go_simp; with_reducible rfl))
      simp only [Act.put, List.setIfInBounds_toArray, List.set_cons_succ, List.set_cons_zero]
      intro W hW
      have q0 := lift_cell z0 hW
      have q1 := lift_cell z1 hW
      have q2 := lift_cell z2 hW
      have q3 := lift_cell z3 hW
      have Ho6 := Lib.hid (Ho5.out.since hW)
      have HoD6 := Lib.hid (HoD5.out.keep hW)
      have Hs6 := Lib.hid (Hs5.out.after hW)
      have y1 := lift_cell d1 hW
      have y2 := lift_cell d2 hW
      have hWW : Since W W := since_refl _
      have hgW : g < W.heap.size := (World.ownsRow.lt Ho6.out g rfl).2
      clear z0 z1 z2 z3 d1 d2 hW
      cases hb : (((v : Int) != (q : Int)) && decide (mv < 0) && decide (mq < 0))
      · have Hn2 : Hid (m = (es.take (k + 1)).foldl mImpl (List.replicate n.ends.length (-1))) := by
          show _ = _
          have h1 : ((v : Int) != (q : Int)) = true := by simp [bne]; omega
          rw [h1, Bool.true_and, Bool.and_eq_false_iff, decide_eq_false_iff_not, decide_eq_false_iff_not] at hb
          rw [Hnx.out, if_neg (by omega)]
        clear hb
        go_wp2
        go_roundw
        case rel => exact ⟨k + 1, m, by omega, by go_num, Hn2.out, Ho6.out, HoD6.out, Hs6.out⟩
        case measure => simp [intOf]; omega
      · have Hn2 : Hid ((m.set v (i : Int)).set q (j : Int) = (es.take (k + 1)).foldl mImpl (List.replicate n.ends.length (-1))) := by
          show _ = _
          rw [Bool.and_eq_true, Bool.and_eq_true, decide_eq_true_eq, decide_eq_true_eq] at hb
          rw [Hnx.out, if_pos ⟨hb.1.2, hb.2⟩]
        have f1 := Ho6.out.free v
        have f2 := Ho6.out.free q
        have Hx1 := Lib.hid (((Ho6.out.set (k := v) (i : Int)).set (k := q) (j : Int)).since (since_drew (since_refl _)))
        have Hx2 := Lib.hid (OwnD.keep (ownD_oth (k := q) (ownD_oth (k := v) HoD6.out Hne3.out (.int .i64 (i : Int))) Hne3.out (.int .i64 (j : Int))) (since_drew (since_refl _)))
        have Hx3 := Lib.hid (show Since w0 ((W.setCell ⟨g, v, none⟩ (.int .i64 (i : Int))).setCell ⟨g, q, none⟩ (.int .i64 (j : Int))).drew from since_drew (Below.setCell (Below.setCell Hs6.out hgw _) hgw _))
        clear hb
        go_upto_region 8 with (fail)
        go_region
        go_wp2
        go_roundw
        case rel => exact ⟨k + 1, _, by omega, by go_num, Hn2.out, Hx1.out, Hx2.out, Hx3.out⟩
        case measure => simp [intOf]; omega
    · have Hr : Hid (gmatB n = m) := by show _ = _; rw [HG.out, Hm.out, show k = es.length by omega, List.take_length]
      obtain rfl : k = es.length := by omega
      go_wp2
      go_ret2
      exact ⟨_, rfl, by rw [Hr.out]; exact Ho.out.mono Hb0.out.size, Since.after Hb0.out hsr⟩
end Go.Proofs.YtlfehdikgbgloaaGreat
namespace Go.Proofs.YtlfehdikgbgloaaGreat
open Go.RowKit
set_option maxHeartbeats 1600000 in
theorem neFirst_any (ve vi vn : Value) (n : Net) (v i : Nat) (x1 x2 : Int) (w : World) (h : NetIn w ve vi vn n) (hn : netOk n = true) (hv : v < n.ends.length) (hx : (rowOf n v)[i]? = some (x1, x2)) :
    Calls Tryz.prog 154 #[.agg #[ve, vi, vn], .int .i64 v, .int .i64 i] w fun e w' => e = .returned (.bool (keepE v i (x1, x2))) ∧ Below w.heap.size w w' := by
  have hnl := netOk_len hn
  obtain ⟨w0, hw0⟩ : ∃ w0, w0 = (w).alloc (.cells #[ve, vi, vn] 31) := ⟨_, rfl⟩
  have hb0 : Below w.heap.size w w0 := by rw [hw0]; exact ((Below.refl _ _).alloc (by simp) _)
  have H := Lib.hid (h.keep hb0)
  obtain ⟨h1, h2, h3⟩ := h.keep hb0
  obtain ⟨A, c, rfl, hlc, hm, hA⟩ := h1
  obtain ⟨A2, c2, rfl, _, hm2, _⟩ := h2
  obtain ⟨A3, c3, rfl, _, hm3, _⟩ := h3
  unfold maxLen at hm hm2 hm3
  have p00 : ∀ W, Since w0 W → W.cell? ⟨w.heap.size, 0, none⟩ = some (.slice A n.ends.length c) := have_cell (by rw [hw0]; simp)
  have p01 : ∀ W, Since w0 W → W.cell? ⟨w.heap.size, 1, none⟩ = some (.slice A2 n.ids.length c2) := have_cell (by rw [hw0]; simp)
  have p02 : ∀ W, Since w0 W → W.cell? ⟨w.heap.size, 2, none⟩ = some (.slice A3 n.inputs.length c3) := have_cell (by rw [hw0]; simp)
  have Hb0 := Lib.hid hb0
  have Hw0 := Lib.hid hw0
  have HA := Lib.hid hA
  clear hA h
  clear hb0 hw0
  obtain ⟨row1, row2, row3⟩ := row_net hn hv
  obtain ⟨es, hes⟩ : ∃ es, es = rowOf n v := ⟨_, rfl⟩
  rw [← hes] at row1 row2 row3 hx
  have hil := lt_of_get hx
  obtain ⟨b, offr, cr, ur, hA1, hkr, hc1, hrow⟩ := row_at H.out.es row1
  cases hA1
  have tr := have_cell hc1
  obtain ⟨A1, z1, rfl, hz1, hz2, hA1⟩ := hrow
  unfold maxLen at hz2
  obtain ⟨b1, off1, rfl, hd1, hd2⟩ := hA1 i _ hx
  have t1 := have_cell hd1
  have t2 := have_cell hd2
  obtain ⟨w1, hw1⟩ : ∃ w1, w1 = w0.alloc (.cells #[.int .i64 x1, .int .i64 x2] 96) := ⟨_, rfl⟩
  have Hw1 := Lib.hid hw1
  have hs1 : Since w0 w1 := by rw [hw1]; exact since_alloc _ (since_refl _)
  have q0 : ∀ W, Since w1 W → W.cell? ⟨w0.heap.size, 0, none⟩ = some (.int .i64 x1) := have_cell (by rw [hw1]; simp)
  have q1 : ∀ W, Since w1 W → W.cell? ⟨w0.heap.size, 1, none⟩ = some (.int .i64 x2) := have_cell (by rw [hw1]; simp)
  have Hs1 := Lib.hid hs1
  have hs0 : Since w0 w0 := since_refl _
  have HR : Hid (keepE v i (x1, x2) = (decide ((v : Int) < x1) || (((v : Int) == x1) && decide ((i : Int) ≤ x2)))) := rfl
  clear row1 row2 row3 hes hx hc1 hd1 hd2 hA1 hn hw1 hs1
  go_enter Tryz.func154, Tryz.ntmps154
  go_upto_region 1 with (fail)
  rw [← Hw0.out]
  go_upto_region 2 with (fail)
  rw [← Hw1.out]
  clear p00 p01 p02 tr t1 t2 hs0
  refine wp_region_flow0 17 (Since w1) (since_refl _) ?_
  simp only [List.take_succ_cons, List.take_zero, List.drop_succ_cons, List.drop_zero]
  refine flow_val (v := ?_) rfl ?_ ?_; rotate_left; (intro W hW; go_simp; with_reducible rfl)
  simp only [Act.put, List.setIfInBounds_toArray, List.set_cons_succ, List.set_cons_zero]
  refine flow_val (v := ?_) rfl ?_ ?_; rotate_left; (intro W hW; go_simp; with_reducible rfl)
  simp only [Act.put, List.setIfInBounds_toArray, List.set_cons_succ, List.set_cons_zero]
  refine flow_val (v := ?_) rfl ?_ ?_; rotate_left; (intro W hW; go_simp; with_reducible rfl)
  simp only [Act.put, List.setIfInBounds_toArray, List.set_cons_succ, List.set_cons_zero]
  refine flow_val (v := ?_) rfl ?_ ?_; rotate_left; (intro W hW; go_simp; with_reducible rfl)
  simp only [Act.put, List.setIfInBounds_toArray, List.set_cons_succ, List.set_cons_zero]
  refine flow_val (v := ?_) rfl ?_ ?_; rotate_left; (intro W hW; go_simp; with_reducible rfl)
  simp only [Act.put, List.setIfInBounds_toArray, List.set_cons_succ, List.set_cons_zero]
  refine flow_gval (v := ?_) rfl rfl ?_ ?_; rotate_left; (intro hb W hW; go_simp; with_reducible rfl)
  simp only [Act.put, List.setIfInBounds_toArray, List.set_cons_succ, List.set_cons_zero]
  refine flow_gval (v := ?_) rfl rfl ?_ ?_; rotate_left; (intro hb W hW; go_simp; with_reducible rfl)
  simp only [Act.put, List.setIfInBounds_toArray, List.set_cons_succ, List.set_cons_zero]
  refine flow_gval (v := ?_) rfl rfl ?_ ?_; rotate_left; (intro hb W hW; go_simp; with_reducible rfl)
  simp only [Act.put, List.setIfInBounds_toArray, List.set_cons_succ, List.set_cons_zero]
  refine flow_gval (v := ?_) rfl rfl ?_ ?_; rotate_left; (intro hb W hW; go_simp; with_reducible rfl)
  simp only [Act.put, List.setIfInBounds_toArray, List.set_cons_succ, List.set_cons_zero]
  refine flow_gval (v := ?_) rfl rfl ?_ ?_; rotate_left; (intro hb W hW; go_simp; with_reducible rfl)
  simp only [Act.put, List.setIfInBounds_toArray, List.set_cons_succ, List.set_cons_zero]
  refine flow_gval2 (v := ?_) rfl rfl ?_ ?_; rotate_left; (intro hb hb2 W hW; go_simp; with_reducible rfl)
  simp only [Act.put, List.setIfInBounds_toArray, List.set_cons_succ, List.set_cons_zero]
  refine flow_gval2 (v := ?_) rfl rfl ?_ ?_; rotate_left; (intro hb hb2 W hW; go_simp; with_reducible rfl)
  simp only [Act.put, List.setIfInBounds_toArray, List.set_cons_succ, List.set_cons_zero]
  refine flow_gval2 (v := ?_) rfl rfl ?_ ?_; rotate_left; (intro hb hb2 W hW; go_simp; with_reducible rfl)
  simp only [Act.put, List.setIfInBounds_toArray, List.set_cons_succ, List.set_cons_zero]
  refine flow_gval2 (v := ?_) rfl rfl ?_ ?_; rotate_left; (intro hb hb2 W hW; go_simp; with_reducible rfl)
  simp only [Act.put, List.setIfInBounds_toArray, List.set_cons_succ, List.set_cons_zero]
  refine flow_gand rfl rfl rfl ?_
  simp only [Act.put, List.setIfInBounds_toArray, List.set_cons_succ, List.set_cons_zero]
  first | refine flow_or rfl rfl ?_ | (refine flow_val (v := ?_) rfl ?_ ?_; rotate_left; (intro W hW; go_simp; with_reducible rfl))
  simp only [Act.put, List.setIfInBounds_toArray, List.set_cons_succ, List.set_cons_zero]
  refine flow_val (v := ?_) rfl ?_ ?_; rotate_left; (intro W hW; go_simp; with_reducible rfl)
  simp only [Act.put, List.setIfInBounds_toArray, List.set_cons_succ, List.set_cons_zero]
  intro W hW
  have HW := Lib.hid hW
  clear hW
  go_wp2
  go_ret
  exact ⟨congrArg (fun b => Ending.returned (.bool b)) HR.out.symm, Since.after Hb0.out (Hs1.out.after HW.out)⟩
-- lists of lists of four numbers
theorem row_info : (Tryz.prog.info? 23).map (fun i => (i.zero, i.size, i.bytes)) = some (some (.slice none 0 0), 1, 24) := by kernel_rfl
def four (x : Ed) : Obj := .cells #[.int .i64 x.1, .int .i64 x.2.1, .int .i64 x.2.2.1, .int .i64 x.2.2.2] 3
def rowV (b : Nat) : Value := .slice (some ⟨b, 0, none⟩) 4 4
def OwnL (W : World) (base : Nat) (u : Value) (L : List Ed) : Prop :=
  ∃ bs : List Nat, bs.length = L.length ∧ W.ownsRow base 23 1 u L.length (bs.map rowV) ∧ ∀ (k : Nat) (x : Ed) (b : Nat), L[k]? = some x → bs[k]? = some b → base ≤ b ∧ W.heap[b]? = some (four x) ∧ u.ownBlock ≠ some b
theorem ownL_nil (W : World) (base : Nat) : OwnL W base (.slice none 0 0) [] := ⟨[], rfl, World.ownsRow_nil W base _ _, fun k x b hx => by simp at hx⟩
theorem OwnL.stable {W W' : World} {base : Nat} {u : Value} {L : List Ed} (h : OwnL W base u L) (hk : ∀ j, base ≤ j → j < W.heap.size → W'.heap[j]? = W.heap[j]?) : OwnL W' base u L := by
  obtain ⟨bs, h1, h2, h3⟩ := h
  refine ⟨bs, h1, ownsRow_stable h2 fun j hj => hk j (World.ownsRow.lt h2 j (by simpa using hj)).1 (World.ownsRow.lt h2 j (by simpa using hj)).2, fun k x b hx hb => ?_⟩
  obtain ⟨q1, q2, q3⟩ := h3 k x b hx hb
  exact ⟨q1, by rw [hk b q1 (Array.getElem?_eq_some_iff.1 q2).1]; exact q2, q3⟩
theorem OwnL.keep {W W' : World} {base : Nat} {u : Value} {L : List Ed} (h : OwnL W base u L) (hs : Since W W') : OwnL W' base u L := h.stable fun j _ hj => hs.below.block j hj
theorem OwnL.oth {W : World} {base g k : Nat} {u : Value} {L : List Ed} (h : OwnL W base u L) (hg : g < base) (v : Value) : OwnL (W.setCell ⟨g, k, none⟩ v) base u L := h.stable fun j hj _ => Below.heap_setCell W _ v j (by show j ≠ g; omega)
theorem OwnL.at {W : World} {base : Nat} {u : Value} {L : List Ed} (h : OwnL W base u L) : (∃ A c, u = .slice A L.length c ∧ L.length ≤ c ∧ c ≤ maxLen) ∧ ∀ (k : Nat) (x : Ed), L[k]? = some x → ∃ g c b, u = .slice (some ⟨g, 0, none⟩) L.length c ∧ W.cell? ⟨g, k, none⟩ = some (rowV b) ∧ base ≤ b ∧ W.cell? ⟨b, 0, none⟩ = some (.int .i64 x.1) ∧ W.cell? ⟨b, 1, none⟩ = some (.int .i64 x.2.1) ∧ W.cell? ⟨b, 2, none⟩ = some (.int .i64 x.2.2.1) ∧ W.cell? ⟨b, 3, none⟩ = some (.int .i64 x.2.2.2) := by
  obtain ⟨bs, h1, h2, h3⟩ := h
  have h' := h2
  rcases h2.2 with ⟨rfl, hn⟩ | ⟨g, cap, cur, rfl, hb, hg, hnc, hcm, hsz, htk⟩
  · have : L = [] := List.eq_nil_of_length_eq_zero hn
    subst this
    exact ⟨⟨none, 0, rfl, Nat.le_refl _, Nat.zero_le _⟩, fun k x hk => by simp at hk⟩
  · refine ⟨⟨_, cap, rfl, hnc, hcm⟩, fun k x hk => ?_⟩
    have hkl := lt_of_get hk
    obtain ⟨b, hbk⟩ : ∃ b, bs[k]? = some b := ⟨_, List.getElem?_eq_getElem (by omega)⟩
    obtain ⟨q1, q2, q3⟩ := h3 k x b hk hbk
    refine ⟨g, cap, b, rfl, ?_, q1, ?_⟩
    · rw [World.ownsRow.cellAt (cap := cap) h' _ (by omega), List.getElem?_map, hbk]; rfl
    · unfold four at q2
      simp [World.cell?, q2]
/-- append of one row -/
theorem app_row {w w0 : World} {ops : Array Oper} {rest : List Oper} {o : Oper} {a : Act} {Q : Exit → Act → World → Prop} (hgd : o.guard = none) (s x : Operand)
    (ho : o.op = .call { callee := .builtin .append, args := #[s, x], argTypes := #[50, 50] }) {v : Value} {L : List Ed} (hs : a.eval s = v) (h : OwnL w w0.heap.size v L) (b r : Nat) (y : Ed)
    (hx : a.eval x = .slice (some ⟨b, 0, none⟩) 1 1) (hc : w.cell? ⟨b, 0, none⟩ = some (rowV r)) (hr : w0.heap.size ≤ r) (hr2 : w.heap[r]? = some (four y)) (hr3 : v.ownBlock ≠ some r) (hl : L.length + 1 ≤ 1000000) (hsn : Since w0 w)
    (k : ∀ g cap w', OwnL w' w0.heap.size (.slice (some ⟨g, 0, none⟩) (L.length + 1) cap) (L ++ [y]) → Since w0 w' → wpList Tryz.prog ops Q rest (a.put o.dst (.slice (some ⟨g, 0, none⟩) (L.length + 1) cap)) w') : wpList Tryz.prog ops Q (o :: rest) a w := by
  obtain ⟨i0, hi, hz0, hz1, hz2⟩ := info_parts row_info
  obtain ⟨bs, h1, h2, h3⟩ := h
  refine wpList_append_lies w hgd s x 50 ho w0.heap.size 23 i0 _ 1 24 Tryz.underlying50 hi hz0 hz1 hz2 rfl (by decide) v L.length (bs.map rowV) hs h2 ⟨b, 0, none⟩ 1 1 [rowV r] hx rfl
    (by intro j u hj; match j, hj with | 0, hj => (simp at hj; subst hj; simpa [Addr.add] using hc) | j + 1, hj => simp at hj) (by simp [Value.oneCell', rowV]) (by omega) (by unfold maxLen; omega) (by omega) hsn.below.size w.heap.size rfl ?_
  intro g cap w' q1 q2 q3 q4
  refine k g cap w' ⟨bs ++ [r], by simp [h1], by simpa using q1, fun k x b' hx hb => ?_⟩ (Below.grown hsn q2 hsn.below.size (fun q hq => (World.ownsRow.lt h2 q hq).1))
  have hrl : r < w.heap.size := (Array.getElem?_eq_some_iff.1 hr2).1
  have hgr : g ≠ r := fun e => by
    subst e
    rcases q3 with q3 | q3
    · exact hr3 q3
    · omega
  rcases Nat.lt_or_ge k L.length with hk | hk
  · rw [List.getElem?_append_left hk] at hx
    rw [List.getElem?_append_left (by omega)] at hb
    obtain ⟨p1, p2, p3⟩ := h3 k x b' hx hb
    have hbl := (Array.getElem?_eq_some_iff.1 p2).1
    refine ⟨p1, by rw [q2.block b' hbl (fun e => p3 e.symm)]; exact p2, fun e => ?_⟩
    have e2 : g = b' := by simpa [Value.ownBlock] using e
    subst e2
    rcases q3 with q3 | q3
    · exact p3 q3
    · omega
  · have hk1 : k = L.length := by
      have := lt_of_get hx
      simp at this; omega
    subst hk1
    rw [List.getElem?_append_right (Nat.le_refl _), Nat.sub_self] at hx
    rw [← h1, List.getElem?_append_right (Nat.le_refl _), Nat.sub_self] at hb
    simp at hx hb
    subst hx hb
    refine ⟨hr, by rw [q2.block r hrl (fun e => hr3 e.symm)]; exact hr2, fun e => hgr ?_⟩
    simpa [Value.ownBlock] using e
set_option maxRecDepth 100000 in
set_option maxHeartbeats 3200000 in
theorem neEdges_any (ve vi vn : Value) (n : Net) (w : World) (h : NetIn w ve vi vn n) (hn : netOk n = true) :
    Calls Tryz.prog 86 #[.agg #[ve, vi, vn]] w fun e w' => ∃ u, e = .returned u ∧ OwnL w' w.heap.size u (edgesB n) ∧ Below w.heap.size w w' := by
  have hn40 := (netOk_len hn).2
  obtain ⟨w0, hw0⟩ : ∃ w0, w0 = (w).alloc (.cells #[ve, vi, vn] 31) := ⟨_, rfl⟩
  have hb0 : Below w.heap.size w w0 := by rw [hw0]; exact ((Below.refl _ _).alloc (by simp) _)
  have H := Lib.hid (h.keep hb0)
  obtain ⟨h1, h2, h3⟩ := h.keep hb0
  obtain ⟨A, c, rfl, hlc, hm, hA⟩ := h1
  obtain ⟨A2, c2, rfl, _, hm2, _⟩ := h2
  obtain ⟨A3, c3, rfl, _, hm3, _⟩ := h3
  unfold maxLen at hm hm2 hm3
  have p00 : ∀ W, Since w0 W → W.cell? ⟨w.heap.size, 0, none⟩ = some (.slice A n.ends.length c) := have_cell (by rw [hw0]; simp)
  have p01 : ∀ W, Since w0 W → W.cell? ⟨w.heap.size, 1, none⟩ = some (.slice A2 n.ids.length c2) := have_cell (by rw [hw0]; simp)
  have p02 : ∀ W, Since w0 W → W.cell? ⟨w.heap.size, 2, none⟩ = some (.slice A3 n.inputs.length c3) := have_cell (by rw [hw0]; simp)
  have Hb0 := Lib.hid hb0
  have Hw0 := Lib.hid hw0
  have HA := Lib.hid hA
  clear hA h
  clear hb0 hw0
  have Hn := Lib.hid hn
  have HLn := Lib.hid (edgesTo_len hn)
  have hs0 : Since w0 w0 := since_refl _
  clear hn
  go_enter Tryz.func86, Tryz.ntmps86
  go_upto_region 1 with (fail)
  rw [← Hw0.out]
  go_wp2
  go_loopw [3, 11] (fun u i wr => ∃ k : Nat, k ≤ n.ends.length ∧ i = .int .i64 k ∧ OwnL wr w0.heap.size u (edgesTo n k) ∧ Since w0 wr) (fun _ i _ => n.ends.length - (intOf i).toNat)
  case atStart => exact ⟨0, Nat.zero_le _, rfl, ownL_nil _ _, hs0⟩
  case round =>
    obtain ⟨k, hk, rfl, ho, hsr⟩ := hrel
    have Ho := Lib.hid ho
    clear ho hs0
    by_cases hlt : k < n.ends.length
    · obtain ⟨row1, row2, row3⟩ := row_net Hn.out hlt
      obtain ⟨es, hes⟩ : ∃ es, es = rowOf n k := ⟨_, rfl⟩
      have Hes := Lib.hid hes
      rw [← hes] at row1 row2
      obtain ⟨b, offr, cr, ur, hA1, hkr, hc1, hrow⟩ := row_at H.out.es row1
      cases hA1
      have d0 := hsr.cell hc1
      obtain ⟨A1, z1, rfl, hz1, hz2, hA1⟩ := hrow
      unfold maxLen at hz2
      have HA1 := Lib.hid hA1
      have m3 : IntKind.i64.wrap ((k : Int) + 1) = (k : Int) + 1 := wr64 _ (by omega) (by omega)
      clear row1 row3 hes hc1 hA1
      go_wp2
      go_loopw [3, 18] (fun u i wr => ∃ j : Nat, j ≤ es.length ∧ i = .int .i64 j ∧ OwnL wr w0.heap.size u (edgesTo n k ++ erow k es j) ∧ Since w0 wr) (fun _ i _ => es.length - (intOf i).toNat)
      case atStart => exact ⟨0, Nat.zero_le _, rfl, by simpa [erow] using Ho.out, hsr⟩
      case round =>
        obtain ⟨j, hj, rfl, ho, hsr2⟩ := hrel
        have Ho2 := Lib.hid ho
        clear ho hsr d0
        by_cases hlt2 : j < es.length
        · obtain ⟨⟨x1, x2⟩, hx⟩ := getx es j hlt2
          obtain ⟨b1, off1, rfl, hd1, hd2⟩ := HA1.out j _ hx
          have t1 := hsr2.cell hd1
          have t2 := hsr2.cell hd2
          simp only at t1 t2
          have m4 : IntKind.i64.wrap ((j : Int) + 1) = (j : Int) + 1 := wr64 _ (by omega) (by omega)
          obtain ⟨LL, hLL⟩ : ∃ LL, LL = edgesTo n k ++ erow k es j := ⟨_, rfl⟩
          have hLl : LL.length ≤ 1000 := by
            rw [hLL, List.length_append]
            have h1 := HLn.out k
            have h2 := erow_len k es j
            omega
          rw [← hLL] at Ho2
          have Hnx : Hid (edgesTo n k ++ erow k es (j + 1) = LL ++ eone k j (x1, x2)) := by show _ = _; rw [erow_succ, getD_of hx, hLL, List.append_assoc]
          obtain ⟨w5, hw5⟩ : ∃ w5, w5 = wr.alloc (.cells #[.int .i64 x1, .int .i64 x2] 96) := ⟨_, rfl⟩
          have hs5 : Since wr w5 := by rw [hw5]; exact since_alloc _ (since_refl _)
          have z0 : ∀ W, Since w5 W → W.cell? ⟨wr.heap.size, 0, none⟩ = some (.int .i64 x1) := have_cell (by rw [hw5]; simp)
          have z1' : ∀ W, Since w5 W → W.cell? ⟨wr.heap.size, 1, none⟩ = some (.int .i64 x2) := have_cell (by rw [hw5]; simp)
          have hs05 := hsr2.after hs5
          obtain ⟨zb, hzb⟩ : ∃ zb, zb = keepE k j (x1, x2) := ⟨_, rfl⟩
          have hcall := neFirst_any _ _ _ n k j x1 x2 w5 (H.out.keep hs05.below) Hn.out hlt (by rw [← Hes.out]; exact hx)
          rw [← hzb] at hcall
          have Hcall := Lib.hid hcall
          have Hzb := Lib.hid hzb
          have Hw5 := Lib.hid hw5
          have Ho5 := Lib.hid (Ho2.out.keep hs5)
          clear hx hd1 hd2 hLL hcall hzb hw5 hs5
          go_upto_region 8 with (fail)
          rw [← Hw5.out]
          clear hsr2 t1 t2
          go_wp2_with fail
          refine Hcall.out.mono ?_
          rintro e w6 ⟨rfl, hb6⟩
          have hs56 : Since w5 w6 := hb6
          have hs6 : Since w0 w6 := hs05.trans hb6
          have Ho6 := Lib.hid (Ho5.out.keep hs56)
          have y0 := lift_cell z0 hs56
          have y1 := lift_cell z1' hs56
          have h66 : Since w6 w6 := since_refl _
          clear hb6 hs05 z0 z1' hs56
          cases zb
          · have Hn2 : Hid (edgesTo n k ++ erow k es (j + 1) = LL) := by show _ = _; rw [Hnx.out]; unfold eone; rw [← Hzb.out]; simp
            clear y0 y1 h66
            go_wp2
            go_roundw
            case rel => exact ⟨j + 1, by omega, by go_num, by rw [Hn2.out]; exact Ho6.out, hs6⟩
            case measure => simp [intOf]; omega
          · have Hn2 : Hid (edgesTo n k ++ erow k es (j + 1) = LL ++ [((k : Int), (j : Int), x1, x2)]) := by show _ = _; rw [Hnx.out]; unfold eone; rw [← Hzb.out, if_pos rfl]
            obtain ⟨w8, hw8⟩ : ∃ w8, w8 = (w6.alloc (four ((k : Int), (j : Int), x1, x2))).alloc (.cells #[rowV w6.heap.size] 23) := ⟨_, rfl⟩
            have hs8 : Since w0 w8 := by rw [hw8]; exact since_alloc _ (since_alloc _ hs6)
            have Ho8 : Hid (OwnL w8 w0.heap.size u3 LL) := by show OwnL _ _ _ _; rw [hw8]; exact Ho6.out.keep (since_alloc _ (since_alloc _ (since_refl _)))
            have c8 : w8.cell? ⟨w6.heap.size + 1, 0, none⟩ = some (rowV w6.heap.size) := by rw [hw8]; simp
            have r8 : w8.heap[w6.heap.size]? = some (four ((k : Int), (j : Int), x1, x2)) := by
              have h1 : (w6.alloc (four ((k : Int), (j : Int), x1, x2))).heap[w6.heap.size]? = some (four ((k : Int), (j : Int), x1, x2)) := heap_alloc_new w6 _
              have h2 : Since (w6.alloc (four ((k : Int), (j : Int), x1, x2))) w8 := by rw [hw8]; exact since_alloc _ (since_refl _)
              rw [h2.below.block _ (Array.getElem?_eq_some_iff.1 h1).1]; exact h1
            have n8 : u3.ownBlock ≠ some w6.heap.size := fun e => by
              obtain ⟨bs, _, q, _⟩ := Ho6.out
              have := (World.ownsRow.lt q _ e).2
              omega
            have Hc8 := Lib.hid (And.intro c8 (And.intro r8 n8))
            have Hs8 := Lib.hid hs8
            have g6 : w0.heap.size ≤ w6.heap.size := (Since.below hs6).size
            have hl8 : LL.length + 1 ≤ 1000000 := by omega
            have Hw8 := Lib.hid hw8
            unfold four rowV at hw8
            clear hs8 c8 r8 n8
            go_wp2_with (at_builtin; rw [← hw8]; refine app_row rfl _ _ rfl rfl Ho8.out (w6.heap.size + 1) w6.heap.size ((k : Int), (j : Int), x1, x2) rfl Hc8.out.1 g6 Hc8.out.2.1 Hc8.out.2.2 hl8 Hs8.out ?_; intro g9 cc9 w9 ho9 hs9)
            have Ho9 := Lib.hid ho9
            have Hs9 := Lib.hid hs9
            clear ho9 hs9 hs6 y0 y1 h66 hw8
            go_wp2
            go_roundw
            case rel => exact ⟨j + 1, by omega, by go_num, by rw [Hn2.out]; exact Ho9.out, Hs9.out⟩
            case measure => simp [intOf]; omega
        · have Hnx : Hid (edgesTo n (k + 1) = edgesTo n k ++ erow k es j) := by show _ = _; rw [edgesTo_succ, ← Hes.out, show j = es.length by omega]
          have hje : j = es.length := by omega
          clear hlt2
          subst hje
          go_wp2
          go_roundw
          case rel => exact ⟨k + 1, by omega, by go_num, by rw [Hnx.out]; exact Ho2.out, hsr2⟩
          case measure => simp [intOf]; omega
    · obtain rfl : k = n.ends.length := by omega
      go_wp2
      go_ret
      exact ⟨_, rfl, by obtain ⟨bs, q1, q2, q3⟩ := Ho.out; exact ⟨bs, q1, ownsRow_mono q2 Hb0.out.size, fun k x b hx hb => ⟨Nat.le_trans Hb0.out.size (q3 k x b hx hb).1, (q3 k x b hx hb).2⟩⟩, Since.after Hb0.out hsr⟩
end Go.Proofs.YtlfehdikgbgloaaGreat
namespace Go.Proofs.YtlfehdikgbgloaaGreat
open Go.RowKit
def legalB (n : Net) (r : Int) : List Int := if r = 1 then farsB n else if r = 2 then colB n else if r = 3 then onesOf n.ends.length (indB n) else if r = 4 then smatB n else List.replicate n.ends.length 0
def oneStep (out : List Int) (v : Int) : List Int := out.set v.toNat 1
theorem ones_fold (k : Nat) (set : List Int) : onesOf k set = set.foldl oneStep (List.replicate k 0) := rfl
theorem ind_in {n : Net} : ∀ x ∈ indB n, 0 ≤ x ∧ x < (n.ends.length : Int) := ind_lt n.ends.length
set_option maxRecDepth 100000 in
set_option maxHeartbeats 3200000 in
theorem ssLegalOf_any (ve vi vn : Value) (n : Net) (r : Int) (w : World) (h : NetIn w ve vi vn n) (hn : netOk n = true) (hp : plainB n = true) :
    Calls Tryz.prog 74 #[.agg #[ve, vi, vn], .int .i64 r] w fun e w' => ∃ u, e = .returned u ∧ Own w' w.heap.size u (legalB n r) ∧ Below w.heap.size w w' := by
  have hnl := netOk_len hn
  obtain ⟨w0, hw0⟩ : ∃ w0, w0 = (w).alloc (.cells #[ve, vi, vn] 31) := ⟨_, rfl⟩
  have hb0 : Below w.heap.size w w0 := by rw [hw0]; exact ((Below.refl _ _).alloc (by simp) _)
  have H := Lib.hid (h.keep hb0)
  obtain ⟨h1, h2, h3⟩ := h.keep hb0
  obtain ⟨A, c, rfl, hlc, hm, hA⟩ := h1
  obtain ⟨A2, c2, rfl, _, hm2, _⟩ := h2
  obtain ⟨A3, c3, rfl, _, hm3, _⟩ := h3
  unfold maxLen at hm hm2 hm3
  have p00 : ∀ W, Since w0 W → W.cell? ⟨w.heap.size, 0, none⟩ = some (.slice A n.ends.length c) := have_cell (by rw [hw0]; simp)
  have p01 : ∀ W, Since w0 W → W.cell? ⟨w.heap.size, 1, none⟩ = some (.slice A2 n.ids.length c2) := have_cell (by rw [hw0]; simp)
  have p02 : ∀ W, Since w0 W → W.cell? ⟨w.heap.size, 2, none⟩ = some (.slice A3 n.inputs.length c3) := have_cell (by rw [hw0]; simp)
  have Hb0 := Lib.hid hb0
  have Hw0 := Lib.hid hw0
  have HA := Lib.hid hA
  clear hA h
  clear hb0 hw0
  have Hn := Lib.hid hn
  have Hp := Lib.hid hp
  have HPL : Hid (∀ W, Since w0 W → Calls Tryz.prog 135 #[.agg #[.slice A n.ends.length c, .slice A2 n.ids.length c2, .slice A3 n.inputs.length c3]] W fun e w' => ∃ u, e = .returned u ∧ IntS w' u (upto n.ends.length) ∧ Below W.heap.size W w') := fun W hW => (ssPlain_any _ _ _ n W (H.out.keep hW.below) (by omega)).mono fun e w' ⟨u, he, ho, hb⟩ => ⟨u, he, ho.ints, hb⟩
  obtain ⟨Y, hY⟩ : ∃ Y, Y = legalB n r := ⟨_, rfl⟩
  have HY : Hid (Y = if r = 1 then farsB n else if r = 2 then colB n else if r = 3 then onesOf n.ends.length (indB n) else if r = 4 then smatB n else List.replicate n.ends.length 0) := hY
  rw [← hY]
  have hs0 : Since w0 w0 := since_refl _
  clear hn hp hY
  by_cases h1 : r = 1
  · subst h1
    have HR : Hid (Y = farsB n) := by show _ = _; rw [HY.out, if_pos rfl]
    go_enter Tryz.func74, Tryz.ntmps74
    go_upto_region 1 with (fail)
    rw [← Hw0.out]
    go_wp2_with (at_make; refine mk_ints _ rfl _ _ rfl _ _ n.ends.length rfl rfl rfl rfl (by omega) ?_; intro w1 ho1 hb1 hz1; have hs1 : Since w0 w1 := hb1)
    clear ho1 hb1 hz1 hs0
    go_wp2_with fail
    refine (ssFar_any _ _ _ n w1 (H.out.keep hs1.below) Hn.out).mono ?_
    rintro e w2 ⟨u, rfl, ho, hb⟩
    have Ho := Lib.hid (ho.mono (Since.below hs1).size)
    have Hs2 := Lib.hid (hs1.trans hb)
    clear ho hb hs1
    go_wp2
    go_ret
    exact ⟨_, rfl, by rw [HR.out]; exact Ho.out.mono Hb0.out.size, Since.after Hb0.out Hs2.out⟩
  have b1 : (r == 1) = false := by simpa using h1
  by_cases h2 : r = 2
  · subst h2
    have HR : Hid (Y = colB n) := by show _ = _; rw [HY.out, if_neg h1, if_pos rfl]
    have HDC : Hid (∀ W u, Since w0 W → IntS W u (upto n.ends.length) → Calls Tryz.prog 134 #[.agg #[.slice A n.ends.length c, .slice A2 n.ids.length c2, .slice A3 n.inputs.length c3], u] W fun e w' => ∃ u, e = .returned u ∧ Own w' w0.heap.size u (colB n) ∧ Below W.heap.size W w') := fun W u hW hu => (deColour_any _ _ _ u n W (H.out.keep hW.below) Hn.out Hp.out hu).mono fun e w' ⟨u, he, ho, hb⟩ => ⟨u, he, ho.mono (Since.below hW).size, hb⟩
    go_enter Tryz.func74, Tryz.ntmps74
    go_upto_region 1 with (fail)
    rw [← Hw0.out]
    go_wp2_with (at_make; refine mk_ints _ rfl _ _ rfl _ _ n.ends.length rfl rfl rfl rfl (by omega) ?_; intro w1 ho1 hb1 hz1; have hs1 : Since w0 w1 := hb1)
    clear ho1 hb1 hz1 hs0
    go_upto_region 6 with (fail)
    refine wp_region_chain (w0 := w0) 4 [false, false, true, true] (by kernel_rfl) (by kernel_rfl) (hs1) ?_
    simp only [selF, selT, List.take_succ_cons, List.take_zero, List.drop_succ_cons, List.drop_zero]
    refine pflow_val (v := ?_) rfl ?_ ?_; rotate_left; (intro W hW; go_simp; with_reducible rfl)
    simp only [Act.put, List.setIfInBounds_toArray, List.set_cons_succ, List.set_cons_zero]
    refine pflow_val (v := ?_) rfl ?_ ?_; rotate_left; (intro W hW; go_simp; with_reducible rfl)
    simp only [Act.put, List.setIfInBounds_toArray, List.set_cons_succ, List.set_cons_zero]
    intro W hW
    refine Or.inl ⟨rfl, ?_⟩
    go_simp
    (with_reducible refine (HPL.out W hW).mono ?_)
    rintro e W' ⟨u, rfl, ho, hb⟩
    refine ⟨_, rfl, hW.trans hb, ?_⟩
    replace hW := hW.trans hb
    have HP := Lib.hid ho; clear ho hb
    (try simp only [Act.put, List.setIfInBounds_toArray, List.set_cons_succ, List.set_cons_zero])
    refine Or.inl ⟨rfl, ?_⟩
    go_simp
    (with_reducible refine (HDC.out _ _ hW HP.out).mono ?_)
    rintro e W' ⟨u2, rfl, ho, hb⟩
    refine ⟨_, rfl, hW.trans hb, ?_⟩
    replace hW := hW.trans hb
    have Ho := Lib.hid ho; clear ho hb
    (try simp only [Act.put, List.setIfInBounds_toArray, List.set_cons_succ, List.set_cons_zero])
    simp only [TFlow]
    have HW := Lib.hid hW
    clear hW hs1
    go_wp2
    go_ret
    exact ⟨_, rfl, by rw [HR.out]; exact Ho.out.mono Hb0.out.size, Since.after Hb0.out HW.out⟩
  have b2 : (r == 2) = false := by simpa using h2
  by_cases h3 : r = 3
  · subst h3
    obtain ⟨set, hset⟩ : ∃ set, set = indB n := ⟨_, rfl⟩
    have HR : Hid (Y = set.foldl oneStep (List.replicate n.ends.length 0)) := by show _ = _; rw [HY.out, if_neg h1, if_neg h2, if_pos rfl, ones_fold, hset]
    have Hin : Hid (∀ x ∈ set, 0 ≤ x ∧ x < (n.ends.length : Int)) := by rw [hset]; exact ind_in
    have hsl : set.length ≤ 40 := by rw [hset]; have := ind_le (n := n) n.ends.length; unfold indB; omega
    have HDC : Hid (∀ W u, Since w0 W → IntS W u (upto n.ends.length) → Calls Tryz.prog 136 #[.agg #[.slice A n.ends.length c, .slice A2 n.ids.length c2, .slice A3 n.inputs.length c3], u, .int .i64 2] W fun e w' => ∃ u, e = .returned u ∧ Own w' W.heap.size u set ∧ Below W.heap.size W w') := fun W u hW hu => by
      rw [hset]; exact ruGreedy_any _ _ _ u n W (H.out.keep hW.below) Hn.out hu
    clear hset
    go_enter Tryz.func74, Tryz.ntmps74
    go_upto_region 1 with (fail)
    rw [← Hw0.out]
    go_wp2_with (at_make; refine mk_ints _ rfl _ _ rfl _ _ n.ends.length rfl rfl rfl rfl (by omega) ?_; intro w1 ho1 hb1 hz1; have hs1 : Since w0 w1 := hb1)
    obtain ⟨g, hg⟩ : ∃ g, g = w0.heap.size := ⟨_, rfl⟩
    rw [← hg] at ho1 hz1 ⊢
    have hgw : w0.heap.size ≤ g := by rw [hg]; exact Nat.le_refl _
    have Ho1 : Hid (Own w1 w0.heap.size (.slice (some ⟨g, 0, none⟩) n.ends.length n.ends.length) (List.replicate n.ends.length 0)) := by show Own _ _ _ _; rw [← hg]; exact ho1
    have hg1 : g < w1.heap.size := (World.ownsRow.lt Ho1.out g rfl).2
    clear ho1 hb1 hz1 hs0 hg
    go_upto_region 8 with (fail)
    have HPL1 : Hid (∀ W, Since w1 W → Calls Tryz.prog 135 #[.agg #[.slice A n.ends.length c, .slice A2 n.ids.length c2, .slice A3 n.inputs.length c3]] W fun e w' => ∃ u, e = .returned u ∧ IntS w' u (upto n.ends.length) ∧ Below W.heap.size W w') := fun W hW => HPL.out W (hs1.after hW)
    have HDC1 : Hid (∀ W u, Since w1 W → IntS W u (upto n.ends.length) → Calls Tryz.prog 136 #[.agg #[.slice A n.ends.length c, .slice A2 n.ids.length c2, .slice A3 n.inputs.length c3], u, .int .i64 2] W fun e w' => ∃ u, e = .returned u ∧ (Own w' w0.heap.size u set ∧ u.ownBlock ≠ some g) ∧ Below W.heap.size W w') := fun W u hW hu => (HDC.out W u (hs1.after hW) hu).mono fun e w' ⟨u, he, ho, hb⟩ => ⟨u, he, ⟨ho.mono (Since.below (hs1.after hW)).size, fun e => by have := (World.ownsRow.lt ho g e).1; have := (Since.below hW).size; omega⟩, hb⟩
    have p00' := lift_cell p00 hs1
    have p01' := lift_cell p01 hs1
    have p02' := lift_cell p02 hs1
    have Hs1 := Lib.hid hs1
    clear hs1 p00 p01 p02
    refine wp_region_chain (w0 := w1) 6 [false, false, true, true, true, false] (by kernel_rfl) (by kernel_rfl) (since_refl _) ?_
    simp only [selF, selT, List.take_succ_cons, List.take_zero, List.drop_succ_cons, List.drop_zero]
    refine pflow_val (v := ?_) rfl ?_ ?_; rotate_left; (intro W hW; go_simp; with_reducible rfl)
    simp only [Act.put, List.setIfInBounds_toArray, List.set_cons_succ, List.set_cons_zero]
    refine pflow_val (v := ?_) rfl ?_ ?_; rotate_left; (intro W hW; go_simp; with_reducible rfl)
    simp only [Act.put, List.setIfInBounds_toArray, List.set_cons_succ, List.set_cons_zero]
    refine pflow_val (v := ?_) rfl ?_ ?_; rotate_left; (intro W hW; go_simp; with_reducible rfl)
    simp only [Act.put, List.setIfInBounds_toArray, List.set_cons_succ, List.set_cons_zero]
    intro W hW
    refine Or.inl ⟨rfl, ?_⟩
    go_simp
    (with_reducible refine (HPL1.out W hW).mono ?_)
    rintro e W' ⟨u, rfl, ho, hb⟩
    refine ⟨_, rfl, hW.trans hb, ?_⟩
    replace hW := hW.trans hb
    have HP := Lib.hid ho; clear ho hb
    (try simp only [Act.put, List.setIfInBounds_toArray, List.set_cons_succ, List.set_cons_zero])
    refine Or.inl ⟨rfl, ?_⟩
    go_simp
    (with_reducible refine (HDC1.out _ _ hW HP.out).mono ?_)
    rintro e W' ⟨u2, rfl, ho, hb⟩
    refine ⟨_, rfl, hW.trans hb, ?_⟩
    replace hW := hW.trans hb
    have HoS := Lib.hid ho.1; have Hne := Lib.hid ho.2; obtain ⟨Bs, ds, rfl, hds1, hds2, _⟩ := id ho.1.ints; unfold maxLen at hds2; clear ho hb
    (try simp only [Act.put, List.setIfInBounds_toArray, List.set_cons_succ, List.set_cons_zero])
    refine tflow_val (v := ?_) rfl ?_ hW ?_; rotate_left; (go_simp; with_reducible rfl)
    simp only [Act.put, List.setIfInBounds_toArray, List.set_cons_succ, List.set_cons_zero]
    simp only [TFlow]
    have Ho2 := Lib.hid (Ho1.out.since hW)
    have hs2 := Hs1.out.after hW
    clear hW p00' p01' p02'
    go_wp2
    go_loopw [32] (fun i wr => ∃ (k : Nat) (out : List Int), k ≤ set.length ∧ i = .int .i64 k ∧ out = (set.take k).foldl oneStep (List.replicate n.ends.length 0) ∧ Own wr w0.heap.size (.slice (some ⟨g, 0, none⟩) n.ends.length n.ends.length) out ∧ Own wr w0.heap.size (.slice Bs set.length ds) set ∧ Since w0 wr) (fun i _ => set.length - (intOf i).toNat)
    case atStart => exact ⟨0, _, Nat.zero_le _, rfl, rfl, Ho2.out, HoS.out, hs2⟩
    case round =>
      obtain ⟨k, out, hk, rfl, hout, ho, hos, hsr⟩ := hrel
      have Ho := Lib.hid ho
      have HoS := Lib.hid hos
      have Hout := Lib.hid hout
      have Hol := Lib.hid ho.len
      clear ho hos hout hs2
      by_cases hlt : k < set.length
      · obtain ⟨x, hx⟩ := getx set k hlt
        obtain ⟨b, off, rfl, d0⟩ := Own.at HoS.out hx
        obtain ⟨x0, x1⟩ := Hin.out x (List.mem_of_getElem? hx)
        obtain ⟨q, rfl⟩ := Int.eq_ofNat_of_zero_le x0
        have hq : q < n.ends.length := by omega
        obtain ⟨y, hy⟩ := getx out q (by rw [Hol.out]; exact hq)
        have cz := Ho.out.cell hy
        have fz := Ho.out.free q
        have Hn1 : Hid (out.set q 1 = (set.take (k + 1)).foldl oneStep (List.replicate n.ends.length 0)) := by
          show _ = _
          rw [take_snoc hx, List.foldl_append, ← Hout.out]
          show _ = oneStep out (q : Int)
          unfold oneStep
          rw [Int.toNat_natCast]
        have Hz1 := Lib.hid (Ho.out.set (k := q) 1)
        have HoS1 := Lib.hid (own_oth (k := q) HoS.out Hne.out (.int .i64 1))
        have Hs5 := Lib.hid (show Since w0 (wr.setCell ⟨g, q, none⟩ (.int .i64 1)) from Below.setCell hsr hgw _)
        have m3 : IntKind.i64.wrap ((k : Int) + 1) = (k : Int) + 1 := wr64 _ (by omega) (by omega)
        clear hx hy hsr
        go_wp2
        go_roundw
        case rel => exact ⟨k + 1, out.set q 1, by omega, by go_num, Hn1.out, Hz1.out, HoS1.out, Hs5.out⟩
        case measure => simp [intOf]; omega
      · have Hr : Hid (Y = out) := by show _ = _; rw [HR.out, Hout.out, show k = set.length by omega, List.take_length]
        obtain rfl : k = set.length := by omega
        go_wp2
        go_ret
        exact ⟨_, rfl, by rw [Hr.out]; exact Ho.out.mono Hb0.out.size, Since.after Hb0.out hsr⟩
  have b3 : (r == 3) = false := by simpa using h3
  by_cases h4 : r = 4
  · subst h4
    obtain ⟨es, hes⟩ : ∃ es, es = edgesB n := ⟨_, rfl⟩
    have HR : Hid (Y = es.foldl mSpec (List.replicate n.ends.length 0)) := by show _ = _; rw [HY.out, if_neg h1, if_neg h2, if_neg h3, if_pos rfl]; unfold smatB; rw [hes]
    have Hea : Hid (∀ x ∈ es, ∃ v i w j : Nat, x = ((v : Int), (i : Int), (w : Int), (j : Int)) ∧ v < n.ends.length ∧ w < n.ends.length ∧ v < w ∧ i < 6 ∧ j < 6) := fun x hx => edge_at Hn.out Hp.out (by rw [← hes]; exact hx)
    have HNE : Hid (∀ W, Since w0 W → Calls Tryz.prog 86 #[.agg #[.slice A n.ends.length c, .slice A2 n.ids.length c2, .slice A3 n.inputs.length c3]] W fun e w' => ∃ u, e = .returned u ∧ OwnL w' W.heap.size u es ∧ Below W.heap.size W w') := fun W hW => by
      rw [hes]; exact neEdges_any _ _ _ n W (H.out.keep hW.below) Hn.out
    clear hes
    go_enter Tryz.func74, Tryz.ntmps74
    go_upto_region 1 with (fail)
    rw [← Hw0.out]
    go_wp2_with (at_make; refine mk_ints _ rfl _ _ rfl _ _ n.ends.length rfl rfl rfl rfl (by omega) ?_; intro w1 ho1 hb1 hz1; have hs1 : Since w0 w1 := hb1)
    obtain ⟨g, hg⟩ : ∃ g, g = w0.heap.size := ⟨_, rfl⟩
    rw [← hg] at ho1 hz1 ⊢
    have hgw : w0.heap.size ≤ g := by rw [hg]; exact Nat.le_refl _
    have Ho1 : Hid (Own w1 w0.heap.size (.slice (some ⟨g, 0, none⟩) n.ends.length n.ends.length) (List.replicate n.ends.length 0)) := by show Own _ _ _ _; rw [← hg]; exact ho1
    have hg1 : g < w1.heap.size := (World.ownsRow.lt Ho1.out g rfl).2
    clear ho1 hb1 hz1 hs0 hg
    go_wp2_with fail
    refine (HNE.out w1 hs1).mono ?_
    rintro e w2 ⟨u2, rfl, ho2, hb2⟩
    have hs2 : Since w0 w2 := hs1.trans hb2
    have Ho2 := Lib.hid (Ho1.out.keep hb2)
    obtain ⟨⟨Be, de, rfl, hde1, hde2⟩, _⟩ := ho2.at
    unfold maxLen at hde2
    have HoL := Lib.hid ho2
    clear ho2 hb2 hs1
    go_wp2
    go_loopw [45] (fun i wr => ∃ (k : Nat) (s : List Int), k ≤ es.length ∧ i = .int .i64 k ∧ s = (es.take k).foldl mSpec (List.replicate n.ends.length 0) ∧ Own wr w0.heap.size (.slice (some ⟨g, 0, none⟩) n.ends.length n.ends.length) s ∧ OwnL wr w1.heap.size (.slice Be es.length de) es ∧ Since w0 wr) (fun i _ => es.length - (intOf i).toNat)
    case atStart => exact ⟨0, _, Nat.zero_le _, rfl, rfl, Ho2.out, HoL.out, hs2⟩
    case round =>
      obtain ⟨k, s, hk, rfl, hss, ho, hol, hsr⟩ := hrel
      have Ho := Lib.hid ho
      have HoL := Lib.hid hol
      have Hss := Lib.hid hss
      have Hsl := Lib.hid ho.len
      clear ho hol hss hs2
      by_cases hlt : k < es.length
      · obtain ⟨x, hx⟩ : ∃ x, es[k]? = some x := ⟨_, List.getElem?_eq_getElem hlt⟩
        obtain ⟨v, i, q, j, rfl, hv, hq, hvq, hi6, hj6⟩ := Hea.out x (List.mem_of_getElem? hx)
        obtain ⟨ge, ce, b, eB, d0, hbg, k0, k1, k2, k3⟩ := HoL.out.at.2 k _ hx
        cases eB
        unfold rowV at d0
        simp only at k0 k1 k2 k3
        have m3 : IntKind.i64.wrap ((k : Int) + 1) = (k : Int) + 1 := wr64 _ (by omega) (by omega)
        have m4 : IntKind.i64.wrap ((i : Int) + 1) = (i : Int) + 1 := wr64 _ (by omega) (by omega)
        have m5 : IntKind.i64.wrap ((j : Int) + 1) = (j : Int) + 1 := wr64 _ (by omega) (by omega)
        obtain ⟨sv, hsv⟩ := getx s v (by rw [Hsl.out]; exact hv)
        obtain ⟨sq, hsq⟩ := getx s q (by rw [Hsl.out]; exact hq)
        have Hnx : Hid ((es.take (k + 1)).foldl mSpec (List.replicate n.ends.length 0) = if sv = 0 ∧ sq = 0 then (s.set v ((i : Int) + 1)).set q ((j : Int) + 1) else s) := by
          show _ = _
          rw [take_snoc hx, List.foldl_append, ← Hss.out]
          show mSpec s _ = _
          unfold mSpec
          simp only [Int.toNat_natCast]
          rw [getD_of hsv, getD_of hsq]
        have y0 : ∀ W, Since wr W → W.cell? ⟨b, 0, none⟩ = some (.int .i64 v) := have_cell k0
        have y1 : ∀ W, Since wr W → W.cell? ⟨b, 1, none⟩ = some (.int .i64 i) := have_cell k1
        have y2 : ∀ W, Since wr W → W.cell? ⟨b, 2, none⟩ = some (.int .i64 q) := have_cell k2
        have y3 : ∀ W, Since wr W → W.cell? ⟨b, 3, none⟩ = some (.int .i64 j) := have_cell k3
        have z1 : ∀ W, Since wr W → W.cell? ⟨g, v, none⟩ = some (.int .i64 sv) := have_cell (Ho.out.cell hsv)
        have z2 : ∀ W, Since wr W → W.cell? ⟨g, q, none⟩ = some (.int .i64 sq) := have_cell (Ho.out.cell hsq)
        have hgr : g < wr.heap.size := (World.ownsRow.lt Ho.out g rfl).2
        have hrr : Since wr wr := since_refl _
        have Hsr := Lib.hid hsr
        have hbne : b ≠ g := by omega
        clear hx hsv hsq k0 k1 k2 k3 hsr
        go_upto_region 17 with (fail)
        refine wp_region_flow0 16 (Since wr) (since_refl _) ?_
        simp only [List.take_succ_cons, List.take_zero, List.drop_succ_cons, List.drop_zero]
        refine flow_val (v := ?_) rfl ?_ ?_; rotate_left; (intro W hW; go_simp; with_reducible rfl)
        simp only [Act.put, List.setIfInBounds_toArray, List.set_cons_succ, List.set_cons_zero]
        refine flow_val (v := ?_) rfl ?_ ?_; rotate_left; (intro W hW; go_simp; with_reducible rfl)
        simp only [Act.put, List.setIfInBounds_toArray, List.set_cons_succ, List.set_cons_zero]
        refine flow_val (v := ?_) rfl ?_ ?_; rotate_left; (intro W hW; go_simp; with_reducible rfl)
        simp only [Act.put, List.setIfInBounds_toArray, List.set_cons_succ, List.set_cons_zero]
        refine flow_val (v := ?_) rfl ?_ ?_; rotate_left; (intro W hW; go_simp; with_reducible rfl)
        simp only [Act.put, List.setIfInBounds_toArray, List.set_cons_succ, List.set_cons_zero]
        refine flow_val (v := ?_) rfl ?_ ?_; rotate_left; (intro W hW; go_simp; with_reducible rfl)
        simp only [Act.put, List.setIfInBounds_toArray, List.set_cons_succ, List.set_cons_zero]
        refine flow_val (v := ?_) rfl ?_ ?_; rotate_left; (intro W hW; go_simp; with_reducible rfl)
        simp only [Act.put, List.setIfInBounds_toArray, List.set_cons_succ, List.set_cons_zero]
        refine flow_val (v := ?_) rfl ?_ ?_; rotate_left; (intro W hW; go_simp; with_reducible rfl)
        simp only [Act.put, List.setIfInBounds_toArray, List.set_cons_succ, List.set_cons_zero]
        refine flow_val (v := ?_) rfl ?_ ?_; rotate_left; (intro W hW; go_simp; with_reducible rfl)
        simp only [Act.put, List.setIfInBounds_toArray, List.set_cons_succ, List.set_cons_zero]
        refine flow_gval (v := ?_) rfl rfl ?_ ?_; rotate_left; (intro hb W hW; go_simp; with_reducible rfl)
        simp only [Act.put, List.setIfInBounds_toArray, List.set_cons_succ, List.set_cons_zero]
        refine flow_gval (v := ?_) rfl rfl ?_ ?_; rotate_left; (intro hb W hW; go_simp; with_reducible rfl)
        simp only [Act.put, List.setIfInBounds_toArray, List.set_cons_succ, List.set_cons_zero]
        refine flow_gval (v := ?_) rfl rfl ?_ ?_; rotate_left; (intro hb W hW; go_simp; with_reducible rfl)
        simp only [Act.put, List.setIfInBounds_toArray, List.set_cons_succ, List.set_cons_zero]
        refine flow_gval (v := ?_) rfl rfl ?_ ?_; rotate_left; (intro hb W hW; go_simp; with_reducible rfl)
        simp only [Act.put, List.setIfInBounds_toArray, List.set_cons_succ, List.set_cons_zero]
        refine flow_gval (v := ?_) rfl rfl ?_ ?_; rotate_left; (intro hb W hW; go_simp; with_reducible rfl)
        simp only [Act.put, List.setIfInBounds_toArray, List.set_cons_succ, List.set_cons_zero]
        refine flow_gval (v := ?_) rfl rfl ?_ ?_; rotate_left; (intro hb W hW; go_simp; with_reducible rfl)
        simp only [Act.put, List.setIfInBounds_toArray, List.set_cons_succ, List.set_cons_zero]
        refine flow_gval (v := ?_) rfl rfl ?_ ?_; rotate_left; (intro hb W hW; go_simp; with_reducible rfl)
        simp only [Act.put, List.setIfInBounds_toArray, List.set_cons_succ, List.set_cons_zero]
        first | refine flow_and rfl rfl ?_ | (refine flow_val (v := ?_) rfl ?_ ?_; rotate_left; (intro W hW; go_simp; with_reducible rfl))
        simp only [Act.put, List.setIfInBounds_toArray, List.set_cons_succ, List.set_cons_zero]
        intro W hW
        have q0 := y0 W hW
        have q1 := y1 W hW
        have q2 := y2 W hW
        have q3 := y3 W hW
        have w1' := z1 W hW
        have w2' := z2 W hW
        have Ho6 := Lib.hid (Ho.out.since hW)
        have HoL6 := Lib.hid (HoL.out.keep hW)
        have Hs6 := Lib.hid (Hsr.out.after hW)
        have hgW : g < W.heap.size := (World.ownsRow.lt Ho6.out g rfl).2
        clear y0 y1 y2 y3 z1 z2 hW hrr d0
        cases hb : ((sv == 0) && (sq == 0))
        · have Hn2 : Hid (s = (es.take (k + 1)).foldl mSpec (List.replicate n.ends.length 0)) := by
            show _ = _
            rw [Hnx.out, if_neg]
            rintro ⟨rfl, rfl⟩
            simp at hb
          clear hb
          go_wp2
          go_roundw
          case rel => exact ⟨k + 1, s, by omega, by go_num, Hn2.out, Ho6.out, HoL6.out, Hs6.out⟩
          case measure => simp [intOf]; omega
        · have Hn2 : Hid ((s.set v ((i : Int) + 1)).set q ((j : Int) + 1) = (es.take (k + 1)).foldl mSpec (List.replicate n.ends.length 0)) := by
            show _ = _
            rw [Bool.and_eq_true, beq_iff_eq, beq_iff_eq] at hb
            rw [Hnx.out, if_pos hb]
          have f1 := Ho6.out.free v
          clear hb
          go_upto_region 18 with (fail)
          go_region
          have f2 := Ho6.out.free q
          have hgb : g ≠ b := fun e => hbne e.symm
          have Hx1 := Lib.hid ((((Ho6.out.set (k := v) ((i : Int) + 1)).since (since_drew (since_refl _))).set (k := q) ((j : Int) + 1)).since (since_drew (since_refl _)))
          have Hx2 := Lib.hid (OwnL.keep (OwnL.oth (k := q) (OwnL.keep (OwnL.oth (k := v) HoL6.out hg1 (.int .i64 ((i : Int) + 1))) (since_drew (since_refl _))) hg1 (.int .i64 ((j : Int) + 1))) (since_drew (since_refl _)))
          have Hx3 := Lib.hid (show Since w0 (((W.setCell ⟨g, v, none⟩ (.int .i64 ((i : Int) + 1))).drew.setCell ⟨g, q, none⟩ (.int .i64 ((j : Int) + 1))).drew) from since_drew (Below.setCell (since_drew (Below.setCell Hs6.out hgw _)) hgw _))
          go_upto_region 19 with (fail)
          go_region
          go_wp2
          go_roundw
          case rel => exact ⟨k + 1, _, by omega, by go_num, Hn2.out, Hx1.out, Hx2.out, Hx3.out⟩
          case measure => simp [intOf]; omega
      · have Hr : Hid (Y = s) := by show _ = _; rw [HR.out, Hss.out, show k = es.length by omega, List.take_length]
        obtain rfl : k = es.length := by omega
        go_wp2
        go_ret
        exact ⟨_, rfl, by rw [Hr.out]; exact Ho.out.mono Hb0.out.size, Since.after Hb0.out hsr⟩
  have b4 : (r == 4) = false := by simpa using h4
  have HR : Hid (Y = List.replicate n.ends.length 0) := by show _ = _; rw [HY.out, if_neg h1, if_neg h2, if_neg h3, if_neg h4]
  clear h1 h2 h3 h4
  go_enter Tryz.func74, Tryz.ntmps74
  go_upto_region 1 with (fail)
  rw [← Hw0.out]
  go_wp2_with (at_make; refine mk_ints _ rfl _ _ rfl _ _ n.ends.length rfl rfl rfl rfl (by omega) ?_; intro w1 ho1 hb1 hz1; have hs1 : Since w0 w1 := hb1)
  have Ho := Lib.hid ho1
  have Hs1 : Hid (Since w0 w1) := hb1
  clear ho1 hb1 hz1 hs0 hs1
  go_wp2
  go_ret
  exact ⟨_, rfl, by rw [HR.out]; exact Ho.out.mono Hb0.out.size, Since.after Hb0.out Hs1.out⟩
end Go.Proofs.YtlfehdikgbgloaaGreat
namespace Go.Proofs.YtlfehdikgbgloaaGreat
open Go.RowKit
theorem one_len : ∀ (vs out : List Int), (vs.foldl oneStep out).length = out.length
  | [], _ => rfl
  | v :: vs, out => by rw [List.foldl_cons, one_len vs]; simp [oneStep]
theorem legalB_len (n : Net) (r : Int) : (legalB n r).length = n.ends.length := by
  unfold legalB
  split
  · simp [farsB]
  · split
    · unfold colB; rw [col_len]; simp
    · split
      · rw [ones_fold, one_len]; simp
      · split
        · unfold smatB
          rw [mat_len (fun m e => by unfold mSpec; split <;> simp)]
          simp
        · simp
def fnExactLegalStateOf_r1 (n : Net) (r : Int) : Bool := ruleOkB n r
def fnExactLegalStateOf_d (n : Net) (r : Int) : List Int := if ruleOkB n r then legalB n r else []
theorem fnExactLegalStateOf_dl (n : Net) (r : Int) (hsz : szNet n ≤ 1048576) : (fnExactLegalStateOf_d n r).length ≤ 4611686018427387904 := by
  unfold fnExactLegalStateOf_d
  split
  · rw [legalB_len]; unfold szNet szEE at hsz; omega
  · simp
theorem rule_parts {n : Net} {r : Int} (h : ruleOkB n r = true) : netOk n = true ∧ plainB n = true ∧ 1 ≤ r ∧ r ≤ 5 := by
  unfold ruleOkB runsB inB at h
  simp only [Bool.and_eq_true, decide_eq_true_eq] at h
  exact ⟨h.1.1, h.2.1, h.1.2.1, h.1.2.2⟩
set_option maxHeartbeats 1600000 in
theorem fnExactLegalStateOf_spec (ve vi vn : Value) (n : Net) (r : Int) (w : World) (h : NetIn w ve vi vn n) (_ : -9223372036854775808 ≤ r ∧ r ≤ 9223372036854775807) (hsz : szNet n ≤ 1048576) :
    Calls Tryz.prog 30 #[.agg #[ve, vi, vn], .int .i64 r] w fun e w' => ∃ u, e = .returned (.tuple #[u, .bool (fnExactLegalStateOf_r1 n r)]) ∧ Own w' w.heap.size u (fnExactLegalStateOf_d n r) ∧ Below w.heap.size w w' := by
  obtain ⟨w0, hw0⟩ : ∃ w0, w0 = (w).alloc (.cells #[ve, vi, vn] 31) := ⟨_, rfl⟩
  have hb0 : Below w.heap.size w w0 := by rw [hw0]; exact ((Below.refl _ _).alloc (by simp) _)
  have H := Lib.hid (h.keep hb0)
  obtain ⟨h1, h2, h3⟩ := h.keep hb0
  obtain ⟨A, c, rfl, hlc, hm, hA⟩ := h1
  obtain ⟨A2, c2, rfl, _, hm2, _⟩ := h2
  obtain ⟨A3, c3, rfl, _, hm3, _⟩ := h3
  unfold maxLen at hm hm2 hm3
  have p00 : ∀ W, Since w0 W → W.cell? ⟨w.heap.size, 0, none⟩ = some (.slice A n.ends.length c) := have_cell (by rw [hw0]; simp)
  have p01 : ∀ W, Since w0 W → W.cell? ⟨w.heap.size, 1, none⟩ = some (.slice A2 n.ids.length c2) := have_cell (by rw [hw0]; simp)
  have p02 : ∀ W, Since w0 W → W.cell? ⟨w.heap.size, 2, none⟩ = some (.slice A3 n.inputs.length c3) := have_cell (by rw [hw0]; simp)
  have Hb0 := Lib.hid hb0
  have Hw0 := Lib.hid hw0
  have HA := Lib.hid hA
  clear hA h
  clear hb0 hw0
  have hs0 : Since w0 w0 := since_refl _
  obtain ⟨Y, hY⟩ : ∃ Y, Y = ruleOkB n r := ⟨_, rfl⟩
  have hcall := ssAsked_any _ _ _ n r w0 H.out hsz
  rw [← hY] at hcall
  have Hcall := Lib.hid hcall
  have HY := Lib.hid hY
  clear hcall hY
  go_enter Tryz.func30, Tryz.ntmps30
  go_upto_region 1 with (fail)
  rw [← Hw0.out]
  go_wp2_with fail
  refine Hcall.out.mono ?_
  rintro e w1 ⟨rfl, hb1⟩
  have hs1 : Since w0 w1 := hb1
  clear hb1 hs0
  cases Y
  · have Hr1 : Hid (false = fnExactLegalStateOf_r1 n r) := HY.out
    have Hd : Hid (fnExactLegalStateOf_d n r = []) := by show _ = _; unfold fnExactLegalStateOf_d; rw [← HY.out]; rfl
    have Hs1 := Lib.hid hs1
    clear hs1
    go_wp2
    go_ret2
    exact ⟨_, tupub' Hr1.out, by rw [Hd.out]; exact own_nil _ _, Since.after Hb0.out Hs1.out⟩
  · have Hr1 : Hid (true = fnExactLegalStateOf_r1 n r) := HY.out
    have Hd : Hid (fnExactLegalStateOf_d n r = legalB n r) := by show _ = _; unfold fnExactLegalStateOf_d; rw [← HY.out]; rfl
    have Hp := Lib.hid (rule_parts HY.out.symm)
    go_wp2_with fail
    refine (ssLegalOf_any _ _ _ n r w1 (H.out.keep hs1.below) Hp.out.1 Hp.out.2.1).mono ?_
    rintro e w2 ⟨u, rfl, ho, hb⟩
    have Ho := Lib.hid (ho.mono (Since.below hs1).size)
    have Hs2 := Lib.hid (hs1.trans hb)
    clear ho hb hs1
    go_wp2
    go_ret2
    exact ⟨_, tupub' Hr1.out, by rw [Hd.out]; exact Ho.out.mono Hb0.out.size, Since.after Hb0.out Hs2.out⟩
set_option maxRecDepth 100000 in
set_option maxHeartbeats 3200000 in
theorem fnExactLegalStateOf_impl (ve vi vn : Value) (n : Net) (r : Int) (w : World) (h : NetIn w ve vi vn n) (_ : -9223372036854775808 ≤ r ∧ r ≤ 9223372036854775807) (hsz : szNet n ≤ 1048576) :
    Calls Tryz.prog 31 #[.agg #[ve, vi, vn], .int .i64 r] w fun e w' => ∃ u, e = .returned (.tuple #[u, .bool (fnExactLegalStateOf_r1 n r)]) ∧ Own w' w.heap.size u (fnExactLegalStateOf_d n r) ∧ Below w.heap.size w w' := by
  obtain ⟨w0, hw0⟩ : ∃ w0, w0 = (w).alloc (.cells #[ve, vi, vn] 31) := ⟨_, rfl⟩
  have hb0 : Below w.heap.size w w0 := by rw [hw0]; exact ((Below.refl _ _).alloc (by simp) _)
  have H := Lib.hid (h.keep hb0)
  obtain ⟨h1, h2, h3⟩ := h.keep hb0
  obtain ⟨A, c, rfl, hlc, hm, hA⟩ := h1
  obtain ⟨A2, c2, rfl, _, hm2, _⟩ := h2
  obtain ⟨A3, c3, rfl, _, hm3, _⟩ := h3
  unfold maxLen at hm hm2 hm3
  have p00 : ∀ W, Since w0 W → W.cell? ⟨w.heap.size, 0, none⟩ = some (.slice A n.ends.length c) := have_cell (by rw [hw0]; simp)
  have p01 : ∀ W, Since w0 W → W.cell? ⟨w.heap.size, 1, none⟩ = some (.slice A2 n.ids.length c2) := have_cell (by rw [hw0]; simp)
  have p02 : ∀ W, Since w0 W → W.cell? ⟨w.heap.size, 2, none⟩ = some (.slice A3 n.inputs.length c3) := have_cell (by rw [hw0]; simp)
  have Hb0 := Lib.hid hb0
  have Hw0 := Lib.hid hw0
  have HA := Lib.hid hA
  clear hA h
  clear hb0 hw0
  have hs0 : Since w0 w0 := since_refl _
  obtain ⟨Y, hY⟩ : ∃ Y, Y = ruleOkB n r := ⟨_, rfl⟩
  have hcall := ruleOk_any _ _ _ n r w0 H.out hsz
  rw [← hY] at hcall
  have Hcall := Lib.hid hcall
  have HY := Lib.hid hY
  clear hcall hY
  cases Y
  · have Hr1 : Hid (false = fnExactLegalStateOf_r1 n r) := HY.out
    have Hd : Hid (fnExactLegalStateOf_d n r = []) := by show _ = _; unfold fnExactLegalStateOf_d; rw [← HY.out]; rfl
    go_enter Tryz.func31, Tryz.ntmps31
    go_upto_region 1 with (fail)
    rw [← Hw0.out]
    go_wp2_with fail
    refine Hcall.out.mono ?_
    rintro e w1 ⟨rfl, hb1⟩
    have Hs1 : Hid (Since w0 w1) := hb1
    clear hb1 hs0
    go_wp2
    go_ret2
    exact ⟨_, tupub' Hr1.out, by rw [Hd.out]; exact own_nil _ _, Since.after Hb0.out Hs1.out⟩
  have Hr1 : Hid (true = fnExactLegalStateOf_r1 n r) := HY.out
  have hd : fnExactLegalStateOf_d n r = legalB n r := by unfold fnExactLegalStateOf_d; rw [← HY.out]; rfl
  obtain ⟨D, hD⟩ : ∃ D, D = fnExactLegalStateOf_d n r := ⟨_, rfl⟩
  rw [← hD]
  have HD : Hid (D = if r = 1 then farsB n else if r = 2 then colB n else if r = 3 then onesOf n.ends.length (indB n) else if r = 4 then smatB n else List.replicate n.ends.length 0) := by show _ = _; rw [hD, hd]; rfl
  obtain ⟨hn, hp, hr1, hr5⟩ := rule_parts HY.out.symm
  have hnl := netOk_len hn
  have Hn := Lib.hid hn
  have Hp := Lib.hid hp
  clear hn hp hd hD HY
  by_cases h1 : r = 1
  · subst h1
    have HR : Hid (D = farsB n) := by show _ = _; rw [HD.out, if_pos rfl]
    clear HD
    go_enter Tryz.func31, Tryz.ntmps31
    go_upto_region 1 with (fail)
    rw [← Hw0.out]
    go_wp2_with fail
    refine Hcall.out.mono ?_
    rintro e w1 ⟨rfl, hb1⟩
    have hs1 : Since w0 w1 := hb1
    clear hb1 hs0
    go_wp2_with fail
    refine (numbersTo_any n.ends.length (by omega) w1).mono ?_
    rintro e w2 ⟨uo, rfl, hoo, hb2⟩
    have hs2 : Since w0 w2 := hs1.trans hb2
    clear hoo hb2 hs1
    go_wp2_with (at_make; refine mk_ints _ rfl _ _ rfl _ _ n.ends.length rfl rfl rfl rfl (by omega) ?_; intro w3 ho3 hb3 hz3; have hs3 : Since w0 w3 := hs2.trans hb3)
    refine (treeStates_any _ _ _ n w3 (H.out.keep hs3.below) Hn.out).mono ?_
    rintro e w4 ⟨u, rfl, ho, hb⟩
    have Ho := Lib.hid (ho.mono (Since.below hs3).size)
    have Hs4 := Lib.hid (hs3.trans hb)
    clear ho hb hs3 ho3 hb3 hz3 hs2
    go_wp2
    go_ret2
    exact ⟨_, tupub' Hr1.out, by rw [HR.out]; exact Ho.out.mono Hb0.out.size, Since.after Hb0.out Hs4.out⟩
  have b1 : (r == 1) = false := by simpa using h1
  by_cases h2 : r = 2
  · subst h2
    have HR : Hid (D = colB n) := by show _ = _; rw [HD.out, if_neg h1, if_pos rfl]
    clear HD
    go_enter Tryz.func31, Tryz.ntmps31
    go_upto_region 1 with (fail)
    rw [← Hw0.out]
    go_wp2_with fail
    refine Hcall.out.mono ?_
    rintro e w1 ⟨rfl, hb1⟩
    have hs1 : Since w0 w1 := hb1
    clear hb1 hs0
    go_wp2_with fail
    refine (numbersTo_any n.ends.length (by omega) w1).mono ?_
    rintro e w2 ⟨uo, rfl, hoo, hb2⟩
    have hs2 : Since w0 w2 := hs1.trans hb2
    have HO := Lib.hid hoo.ints
    clear hoo hb2 hs1
    go_wp2_with (at_make; refine mk_ints _ rfl _ _ rfl _ _ n.ends.length rfl rfl rfl rfl (by omega) ?_; intro w3 ho3 hb3 hz3; have hs3 : Since w0 w3 := hs2.trans hb3)
    refine (greedyColouring_any _ _ _ _ n w3 (H.out.keep hs3.below) Hn.out (HO.out.keep hb3)).mono ?_
    rintro e w4 ⟨u, rfl, ho, hb⟩
    have Ho := Lib.hid (ho.mono (Since.below hs3).size)
    have Hs4 := Lib.hid (hs3.trans hb)
    clear ho hb hs3 ho3 hb3 hz3 hs2
    go_wp2
    go_ret2
    exact ⟨_, tupub' Hr1.out, by rw [HR.out]; exact Ho.out.mono Hb0.out.size, Since.after Hb0.out Hs4.out⟩
  have b2 : (r == 2) = false := by simpa using h2
  by_cases h3 : r = 3
  · subst h3
    obtain ⟨set, hset⟩ : ∃ set, set = indB n := ⟨_, rfl⟩
    have HR : Hid (D = set.foldl oneStep (List.replicate n.ends.length 0)) := by show _ = _; rw [HD.out, if_neg h1, if_neg h2, if_pos rfl, ones_fold, hset]
    have Hin : Hid (∀ x ∈ set, 0 ≤ x ∧ x < (n.ends.length : Int)) := by rw [hset]; exact ind_in
    have hsl : set.length ≤ 40 := by rw [hset]; have := ind_le (n := n) n.ends.length; unfold indB; omega
    have HDC : Hid (∀ W u, Since w0 W → IntS W u (upto n.ends.length) → Calls Tryz.prog 79 #[.agg #[.slice A n.ends.length c, .slice A2 n.ids.length c2, .slice A3 n.inputs.length c3], u] W fun e w' => ∃ u, e = .returned u ∧ Own w' W.heap.size u set ∧ Below W.heap.size W w') := fun W u hW hu => by
      rw [hset]; exact greedyIndependent_any _ _ _ u n W (H.out.keep hW.below) Hn.out Hp.out hu
    clear hset HD
    go_enter Tryz.func31, Tryz.ntmps31
    go_upto_region 1 with (fail)
    rw [← Hw0.out]
    go_wp2_with fail
    refine Hcall.out.mono ?_
    rintro e w1 ⟨rfl, hb1⟩
    have hs1 : Since w0 w1 := hb1
    clear hb1 hs0
    go_wp2_with fail
    refine (numbersTo_any n.ends.length (by omega) w1).mono ?_
    rintro e w2 ⟨uo, rfl, hoo, hb2⟩
    have hs2 : Since w0 w2 := hs1.trans hb2
    have HO := Lib.hid hoo.ints
    clear hoo hb2 hs1
    go_wp2_with (at_make; refine mk_ints _ rfl _ _ rfl _ _ n.ends.length rfl rfl rfl rfl (by omega) ?_; intro w3 ho3 hb3 hz3; have hs3 : Since w0 w3 := hs2.trans hb3)
    refine (HDC.out w3 _ hs3 (HO.out.keep hb3)).mono ?_
    rintro e w4 ⟨u, rfl, ho, hb⟩
    obtain ⟨g, hg⟩ : ∃ g, g = w2.heap.size := ⟨_, rfl⟩
    have hgw : w0.heap.size ≤ g := by rw [hg]; exact (Since.below hs2).size
    have Ho1 : Hid (Own w3 w0.heap.size (.slice (some ⟨g, 0, none⟩) n.ends.length n.ends.length) (List.replicate n.ends.length 0)) := by show Own _ _ _ _; rw [hg]; exact ho3.mono (Since.below hs2).size
    have Ho2 := Lib.hid (Ho1.out.keep hb)
    have Hne : Hid (u.ownBlock ≠ some g) := fun e => by
      have h1 := (World.ownsRow.lt ho g e).1
      have h2 := (World.ownsRow.lt Ho1.out g rfl).2
      omega
    have HoS := Lib.hid (ho.mono (Since.below hs3).size)
    obtain ⟨Bs, ds, rfl, hds1, hds2, _⟩ := id ho.ints
    unfold maxLen at hds2
    have hs4 : Since w0 w4 := hs3.trans hb
    rw [← hg]
    clear ho hb hs3 ho3 hb3 hz3 hs2 hg
    go_wp2
    go_loopw [44] (fun i wr => ∃ (k : Nat) (out : List Int), k ≤ set.length ∧ i = .int .i64 k ∧ out = (set.take k).foldl oneStep (List.replicate n.ends.length 0) ∧ Own wr w0.heap.size (.slice (some ⟨g, 0, none⟩) n.ends.length n.ends.length) out ∧ Own wr w0.heap.size (.slice Bs set.length ds) set ∧ Since w0 wr) (fun i _ => set.length - (intOf i).toNat)
    case atStart => exact ⟨0, _, Nat.zero_le _, rfl, rfl, Ho2.out, HoS.out, hs4⟩
    case round =>
      obtain ⟨k, out, hk, rfl, hout, ho, hos, hsr⟩ := hrel
      have Ho := Lib.hid ho
      have HoS := Lib.hid hos
      have Hout := Lib.hid hout
      have Hol := Lib.hid ho.len
      clear ho hos hout hs4
      by_cases hlt : k < set.length
      · obtain ⟨x, hx⟩ := getx set k hlt
        obtain ⟨b, off, rfl, d0⟩ := Own.at HoS.out hx
        obtain ⟨x0, x1⟩ := Hin.out x (List.mem_of_getElem? hx)
        obtain ⟨q, rfl⟩ := Int.eq_ofNat_of_zero_le x0
        have hq : q < n.ends.length := by omega
        obtain ⟨y, hy⟩ := getx out q (by rw [Hol.out]; exact hq)
        have cz := Ho.out.cell hy
        have fz := Ho.out.free q
        have Hn1 : Hid (out.set q 1 = (set.take (k + 1)).foldl oneStep (List.replicate n.ends.length 0)) := by
          show _ = _
          rw [take_snoc hx, List.foldl_append, ← Hout.out]
          show _ = oneStep out (q : Int)
          unfold oneStep
          rw [Int.toNat_natCast]
        have Hz1 := Lib.hid (Ho.out.set (k := q) 1)
        have HoS1 := Lib.hid (own_oth (k := q) HoS.out Hne.out (.int .i64 1))
        have Hs5 := Lib.hid (show Since w0 (wr.setCell ⟨g, q, none⟩ (.int .i64 1)) from Below.setCell hsr hgw _)
        have m3 : IntKind.i64.wrap ((k : Int) + 1) = (k : Int) + 1 := wr64 _ (by omega) (by omega)
        clear hx hy hsr
        go_wp2
        go_roundw
        case rel => exact ⟨k + 1, out.set q 1, by omega, by go_num, Hn1.out, Hz1.out, HoS1.out, Hs5.out⟩
        case measure => simp [intOf]; omega
      · have Hr : Hid (D = out) := by show _ = _; rw [HR.out, Hout.out, show k = set.length by omega, List.take_length]
        obtain rfl : k = set.length := by omega
        go_wp2
        go_ret2
        exact ⟨_, tupub' Hr1.out, by rw [Hr.out]; exact Ho.out.mono Hb0.out.size, Since.after Hb0.out hsr⟩
  have b3 : (r == 3) = false := by simpa using h3
  by_cases h4 : r = 4
  · subst h4
    obtain ⟨gm, hgm⟩ : ∃ gm, gm = gmatB n := ⟨_, rfl⟩
    have HR : Hid (D = lmatB n n.ends.length) := by show _ = _; rw [HD.out, if_neg h1, if_neg h2, if_neg h3, if_pos rfl, lmat_eq Hn.out Hp.out]
    have HM : Hid (MI n (edgesB n) gm (smatB n)) := by show MI _ _ _ _; rw [hgm]; exact mat_ok Hn.out Hp.out
    have HGM : Hid (∀ W, Since w0 W → Calls Tryz.prog 80 #[.agg #[.slice A n.ends.length c, .slice A2 n.ids.length c2, .slice A3 n.inputs.length c3]] W fun e w' => ∃ u, e = .returned (.tuple #[u, .bool true]) ∧ Own w' W.heap.size u gm ∧ Below W.heap.size W w') := fun W hW => by
      rw [hgm]; exact GreedyMatching_any _ _ _ n W (H.out.keep hW.below) Hn.out Hp.out hsz
    have Hlm : Hid (∀ k, lmatB n (k + 1) = lmPut n gm (lmatB n k) k) := fun k => by rw [hgm]; unfold lmatB; rw [List.range_succ, List.foldl_append]; rfl
    have hgl : gm.length = n.ends.length := HM.out.lm
    have Hgl := Lib.hid hgl
    clear hgm HD hgl
    go_enter Tryz.func31, Tryz.ntmps31
    go_upto_region 1 with (fail)
    rw [← Hw0.out]
    go_wp2_with fail
    refine Hcall.out.mono ?_
    rintro e w1 ⟨rfl, hb1⟩
    have hs1 : Since w0 w1 := hb1
    clear hb1 hs0
    go_wp2_with fail
    refine (numbersTo_any n.ends.length (by omega) w1).mono ?_
    rintro e w2 ⟨uo, rfl, hoo, hb2⟩
    have hs2 : Since w0 w2 := hs1.trans hb2
    clear hoo hb2 hs1
    go_wp2_with (at_make; refine mk_ints _ rfl _ _ rfl _ _ n.ends.length rfl rfl rfl rfl (by omega) ?_; intro w3 ho3 hb3 hz3; have hs3 : Since w0 w3 := hs2.trans hb3)
    refine (HGM.out w3 hs3).mono ?_
    rintro e w4 ⟨u, rfl, ho, hb⟩
    obtain ⟨g, hg⟩ : ∃ g, g = w2.heap.size := ⟨_, rfl⟩
    have hgw : w0.heap.size ≤ g := by rw [hg]; exact (Since.below hs2).size
    have Ho1 : Hid (Own w3 w0.heap.size (.slice (some ⟨g, 0, none⟩) n.ends.length n.ends.length) (List.replicate n.ends.length 0)) := by show Own _ _ _ _; rw [hg]; exact ho3.mono (Since.below hs2).size
    have Ho2 := Lib.hid (Ho1.out.keep hb)
    have Hne : Hid (u.ownBlock ≠ some g) := fun e => by
      have h1 := (World.ownsRow.lt ho g e).1
      have h2 := (World.ownsRow.lt Ho1.out g rfl).2
      omega
    have HoS := Lib.hid (ho.mono (Since.below hs3).size)
    obtain ⟨Bs, ds, rfl, hds1, hds2, _⟩ := id ho.ints
    unfold maxLen at hds2
    have hs4 : Since w0 w4 := hs3.trans hb
    rw [← hg]
    clear ho hb hs3 ho3 hb3 hz3 hs2 hg
    go_wp2
    go_loopw [61] (fun i wr => ∃ (k : Nat) (out : List Int), k ≤ gm.length ∧ i = .int .i64 k ∧ out = lmatB n k ∧ Own wr w0.heap.size (.slice (some ⟨g, 0, none⟩) n.ends.length n.ends.length) out ∧ Own wr w0.heap.size (.slice Bs gm.length ds) gm ∧ Since w0 wr) (fun i _ => gm.length - (intOf i).toNat)
    case atStart => exact ⟨0, _, Nat.zero_le _, rfl, rfl, Ho2.out, HoS.out, hs4⟩
    case round =>
      obtain ⟨k, out, hk, rfl, hout, ho, hos, hsr⟩ := hrel
      have Ho := Lib.hid ho
      have HoS := Lib.hid hos
      have Hout := Lib.hid hout
      have Hol := Lib.hid ho.len
      clear ho hos hout hs4
      by_cases hlt : k < gm.length
      · obtain ⟨mv, hmv⟩ := getx gm k hlt
        obtain ⟨b, off, rfl, d0⟩ := Own.at HoS.out hmv
        have hkn : k < n.ends.length := by rw [← Hgl.out]; exact hlt
        have hgk : gm.getD k 0 = mv := getD_of hmv
        have m3 : IntKind.i64.wrap ((k : Int) + 1) = (k : Int) + 1 := wr64 _ (by omega) (by omega)
        by_cases h0 : mv < 0
        · have c0 : decide (mv < 0) = true := decide_eq_true h0
          have Hn1 : Hid (out = lmatB n (k + 1)) := by
            show _ = _
            rw [Hlm.out k, ← Hout.out]
            unfold lmPut lmSkip
            rw [hgk, c0]
            rfl
          clear h0 hmv hgk
          go_wp2
          go_roundw
          case rel => exact ⟨k + 1, out, by omega, by go_num, Hn1.out, Ho.out, HoS.out, hsr⟩
          case measure => simp [intOf]; omega
        · obtain ⟨i, rfl⟩ := Int.eq_ofNat_of_zero_le (show 0 ≤ mv by omega)
          obtain ⟨q, hq1, hq2, hq3, hq4, hq5, hq6, hq7⟩ := HM.out.mate k hkn (by rw [hgk]; omega)
          rw [hgk] at hq3 hq4 hq6 hq7
          rw [Int.toNat_natCast] at hq4
          obtain ⟨j, hj⟩ := Int.eq_ofNat_of_zero_le hq5
          rw [hj] at hq4
          obtain ⟨row1, row2, row3⟩ := row_net Hn.out hkn
          obtain ⟨es, hes⟩ : ∃ es, es = rowOf n k := ⟨_, rfl⟩
          have hil : i < es.length := by rw [hes]; omega
          have hxi : es[i]? = some ((q : Int), (j : Int)) := by
            rw [List.getElem?_eq_getElem hil]
            have : es.getD i (0, 0) = ((q : Int), (j : Int)) := by rw [hes]; exact hq4
            rw [List.getD_eq_getElem?_getD, List.getElem?_eq_getElem hil] at this
            exact congrArg some this
          have hnode : nodeAt n k (i : Int) = (q : Int) := by unfold nodeAt; rw [Int.toNat_natCast, hq4]
          have hj6 := (row3 _ (by rw [← hes]; exact List.mem_of_getElem? hxi)).2
          simp only at hj6
          rw [← hes] at row1 row2
          obtain ⟨br, offr, cr, ur, hA1, hkr, hc1, hrow⟩ := row_at H.out.es row1
          cases hA1
          have tr := lift_cell (have_cell hc1) hsr
          obtain ⟨A1, zc, rfl, hz1, hz2, hA1⟩ := hrow
          unfold maxLen at hz2
          obtain ⟨bb, offb, rfl, hd1, hd2⟩ := hA1 i _ hxi
          have t1 := lift_cell (have_cell hd1) hsr
          have t2 := lift_cell (have_cell hd2) hsr
          simp only at t1 t2
          have hrr : Since wr wr := since_refl _
          have p00' := lift_cell p00 hsr
          have p01' := lift_cell p01 hsr
          have p02' := lift_cell p02 hsr
          by_cases hqk : q < k
          · have hqkI : (q : Int) < (k : Int) := by omega
            have Hn1 : Hid (out = lmatB n (k + 1)) := by
              show _ = _
              rw [Hlm.out k, ← Hout.out]
              unfold lmPut
              rw [if_pos]
              unfold lmSkip
              rw [hgk, hnode, decide_eq_true hqkI, Bool.or_true]
            have Hsr := Lib.hid hsr
            clear h0 hmv hgk hq4 hq6 hq7 hj hes hxi hnode row1 row3 hc1 hd1 hd2 hA1 hsr
            go_wp2
            go_roundw
            case rel => exact ⟨k + 1, out, by omega, by go_num, Hn1.out, Ho.out, HoS.out, Hsr.out⟩
            case measure => simp [intOf]; omega
          · have hkq : k < q := by omega
            have hport : portB n k (q : Int) = (i : Int) := hq7 hkq
            have Hn1 : Hid ((out.set k ((i : Int) + 1)).set q ((j : Int) + 1) = lmatB n (k + 1)) := by
              show _ = _
              rw [Hlm.out k, ← Hout.out]
              unfold lmPut
              have hsk : lmSkip n gm k = false := by
                unfold lmSkip
                rw [hgk, hnode, decide_eq_false (by omega), decide_eq_false (by omega)]; rfl
              have hpo : lmPort n gm k = (i : Int) := by unfold lmPort; rw [hgk, hnode]; exact hport
              rw [hsk, if_neg (by simp), hpo, hnode, Int.toNat_natCast, Int.toNat_natCast, hq4]
            have HPT : Hid (∀ W, Since wr W → Calls Tryz.prog 81 #[.agg #[.slice (some ⟨br, offr, none⟩) n.ends.length c, .slice A2 n.ids.length c2, .slice A3 n.inputs.length c3], .int .i64 k, .int .i64 q] W fun e w' => e = .returned (.int .i64 (i : Int)) ∧ Below W.heap.size W w') := fun W hW => by
              rw [← hport]; exact portTo_any _ _ _ n k (q : Int) W (H.out.keep (hsr.after hW).below) Hn.out hkn
            have m4 : IntKind.i64.wrap ((i : Int) + 1) = (i : Int) + 1 := wr64 _ (by omega) (by omega)
            have m5 : IntKind.i64.wrap ((j : Int) + 1) = (j : Int) + 1 := wr64 _ (by omega) (by omega)
            have hnq : ¬ q < k := hqk
            have hnqI : ¬ (q : Int) < (k : Int) := by omega
            have Hsr := Lib.hid hsr
            clear h0 hmv hgk hq6 hq7 hj hes hxi hnode row1 row3 hc1 hd1 hd2 hA1 hport hq4 hqk p00 p01 p02 hsr
            go_upto_region 22 with (fail)
            refine wp_region_chain (w0 := wr) 12 [false, false, false, false, false, false, false, false, false, false, false, true] (by kernel_rfl) (by kernel_rfl) (since_refl _) ?_
            simp only [selF, selT, List.take_succ_cons, List.take_zero, List.drop_succ_cons, List.drop_zero]
            refine pflow_val (v := ?_) rfl ?_ ?_; rotate_left; (intro W hW; go_simp; with_reducible rfl)
            simp only [Act.put, List.setIfInBounds_toArray, List.set_cons_succ, List.set_cons_zero]
            refine pflow_val (v := ?_) rfl ?_ ?_; rotate_left; (intro W hW; go_simp; with_reducible rfl)
            simp only [Act.put, List.setIfInBounds_toArray, List.set_cons_succ, List.set_cons_zero]
            refine pflow_val (v := ?_) rfl ?_ ?_; rotate_left; (intro W hW; go_simp; with_reducible rfl)
            simp only [Act.put, List.setIfInBounds_toArray, List.set_cons_succ, List.set_cons_zero]
            refine pflow_val (v := ?_) rfl ?_ ?_; rotate_left; (intro W hW; go_simp; with_reducible rfl)
            simp only [Act.put, List.setIfInBounds_toArray, List.set_cons_succ, List.set_cons_zero]
            refine pflow_val (v := ?_) rfl ?_ ?_; rotate_left; (intro W hW; go_simp; with_reducible rfl)
            simp only [Act.put, List.setIfInBounds_toArray, List.set_cons_succ, List.set_cons_zero]
            refine pflow_val (v := ?_) rfl ?_ ?_; rotate_left; (intro W hW; go_simp; with_reducible rfl)
            simp only [Act.put, List.setIfInBounds_toArray, List.set_cons_succ, List.set_cons_zero]
            refine pflow_val (v := ?_) rfl ?_ ?_; rotate_left; (intro W hW; go_simp; with_reducible rfl)
            simp only [Act.put, List.setIfInBounds_toArray, List.set_cons_succ, List.set_cons_zero]
            refine pflow_val (v := ?_) rfl ?_ ?_; rotate_left; (intro W hW; go_simp; with_reducible rfl)
            simp only [Act.put, List.setIfInBounds_toArray, List.set_cons_succ, List.set_cons_zero]
            refine pflow_val (v := ?_) rfl ?_ ?_; rotate_left; (intro W hW; go_simp; with_reducible rfl)
            simp only [Act.put, List.setIfInBounds_toArray, List.set_cons_succ, List.set_cons_zero]
            refine pflow_val (v := ?_) rfl ?_ ?_; rotate_left; (intro W hW; go_simp; with_reducible rfl)
            simp only [Act.put, List.setIfInBounds_toArray, List.set_cons_succ, List.set_cons_zero]
            refine pflow_val (v := ?_) rfl ?_ ?_; rotate_left; (intro W hW; go_simp; with_reducible rfl)
            simp only [Act.put, List.setIfInBounds_toArray, List.set_cons_succ, List.set_cons_zero]
            intro W hW
            refine Or.inl ⟨rfl, ?_⟩
            go_simp
            (with_reducible refine (HPT.out _ hW).mono ?_)
            rintro e W' ⟨rfl, hb⟩
            refine ⟨_, rfl, hW.trans hb, ?_⟩
            replace hW := hW.trans hb
            clear hb
            (try simp only [Act.put, List.setIfInBounds_toArray, List.set_cons_succ, List.set_cons_zero])
            simp only [TFlow]
            have tr2 := lift_cell tr hW
            have t12 := lift_cell t1 hW
            have t22 := lift_cell t2 hW
            have q00 := lift_cell p00' hW
            have hWW : Since W' W' := since_refl _
            have Ho6 := Lib.hid (Ho.out.since hW)
            have HoS6 := Lib.hid (HoS.out.since hW)
            have Hs6 := Lib.hid (Hsr.out.after hW)
            clear tr t1 t2 p00' p01' p02' hrr hW d0
            obtain ⟨w8, hw8⟩ : ∃ w8, w8 = W'.alloc (.cells #[.int .i64 q, .int .i64 j] 96) := ⟨_, rfl⟩
            have hs8 : Since W' w8 := by rw [hw8]; exact since_alloc _ (since_refl _)
            have z0 : w8.cell? ⟨W'.heap.size, 0, none⟩ = some (.int .i64 q) := by rw [hw8]; simp
            have z1 : w8.cell? ⟨W'.heap.size, 1, none⟩ = some (.int .i64 j) := by rw [hw8]; simp
            have Ho8 := Lib.hid (Ho6.out.since hs8)
            have HoS8 := Lib.hid (HoS6.out.since hs8)
            have Hs8 := Lib.hid (Hs6.out.after hs8)
            have Hw8 := Lib.hid hw8
            obtain ⟨y1, hy1⟩ := getx out k (by rw [Hol.out]; exact hkn)
            obtain ⟨y2, hy2⟩ := getx out q (by rw [Hol.out]; exact hq1)
            have e1 := Ho8.out.cell hy1
            have e2 := Ho8.out.cell hy2
            have f1 := Ho8.out.free k
            have f2 := Ho8.out.free q
            have hgW : g < W'.heap.size := (World.ownsRow.lt Ho6.out g rfl).2
            have Hz0 := Lib.hid (And.intro z0 (And.intro z1 (And.intro e1 (And.intro e2 (And.intro f1 f2)))))
            clear hw8 hs8 hy1 hy2 z0 z1 e1 e2 f1 f2
            go_upto_region 24 with (fail)
            rw [← Hw8.out]
            obtain ⟨z0, z1, e1, e2, f1, f2⟩ := Hz0.out
            have Hx1 := Lib.hid (((Ho8.out.set (k := k) ((i : Int) + 1)).set (k := q) ((j : Int) + 1)).since (since_drew (since_refl _)))
            have Hx2 := Lib.hid ((own_oth (k := q) (own_oth (k := k) HoS8.out Hne.out (.int .i64 ((i : Int) + 1))) Hne.out (.int .i64 ((j : Int) + 1))).since (since_drew (since_refl _)))
            have Hx3 := Lib.hid (show Since w0 ((w8.setCell ⟨g, k, none⟩ (.int .i64 ((i : Int) + 1))).setCell ⟨g, q, none⟩ (.int .i64 ((j : Int) + 1))).drew from since_drew (Below.setCell (Below.setCell Hs8.out hgw _) hgw _))
            clear tr2 t12 t22 q00 hWW
            go_region
            go_wp2
            go_roundw
            case rel => exact ⟨k + 1, _, by omega, by go_num, Hn1.out, Hx1.out, Hx2.out, Hx3.out⟩
            case measure => simp [intOf]; omega
      · have Hr : Hid (D = out) := by show _ = _; rw [HR.out, Hout.out, show k = n.ends.length by rw [← Hgl.out]; omega]
        obtain rfl : k = gm.length := by omega
        go_wp2
        go_ret2
        exact ⟨_, tupub' Hr1.out, by rw [Hr.out]; exact Ho.out.mono Hb0.out.size, Since.after Hb0.out hsr⟩
  have b4 : (r == 4) = false := by simpa using h4
  have HR : Hid (D = List.replicate n.ends.length 0) := by show _ = _; rw [HD.out, if_neg h1, if_neg h2, if_neg h3, if_neg h4]
  clear HD h1 h2 h3 h4
  go_enter Tryz.func31, Tryz.ntmps31
  go_upto_region 1 with (fail)
  rw [← Hw0.out]
  go_wp2_with fail
  refine Hcall.out.mono ?_
  rintro e w1 ⟨rfl, hb1⟩
  have hs1 : Since w0 w1 := hb1
  clear hb1 hs0
  go_wp2_with fail
  refine (numbersTo_any n.ends.length (by omega) w1).mono ?_
  rintro e w2 ⟨uo, rfl, hoo, hb2⟩
  have hs2 : Since w0 w2 := hs1.trans hb2
  clear hoo hb2 hs1
  go_wp2_with (at_make; refine mk_ints _ rfl _ _ rfl _ _ n.ends.length rfl rfl rfl rfl (by omega) ?_; intro w3 ho3 hb3 hz3; have hs3 : Since w0 w3 := hs2.trans hb3)
  have Ho := Lib.hid (ho3.mono (Since.below hs2).size)
  have Hs3 := Lib.hid hs3
  clear ho3 hb3 hz3 hs2 hs3
  try go_wp2
  go_ret2
  exact ⟨_, tupub' Hr1.out, by rw [HR.out]; exact Ho.out.mono Hb0.out.size, Since.after Hb0.out Hs3.out⟩
end Go.Proofs.YtlfehdikgbgloaaGreat
