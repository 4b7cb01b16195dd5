/- Parts of the proof: walks of functions and plain laws. -/
import Derived.Test.YtlfehdikgbgloaaGreatP10
import Derived.Test.YtlfehdikgbgloaaGreatP9
import Derived.Test.YtlfehdikgbgloaaGreatP8
namespace Go.Proofs.YtlfehdikgbgloaaGreat
open Go.RowKit
theorem ints_at {w : World} {A : Option Addr} {c : Nat} {xs : List Int} {k : Nat} {x : Int} (h : IntS w (.slice A xs.length c) xs) (hx : xs[k]? = some x) : ∃ b off, A = some ⟨b, off, none⟩ ∧ w.cell? ⟨b, off + k, none⟩ = some (.int .i64 x) := by
  obtain ⟨A', c', e, _, _, hA⟩ := h
  cases e
  exact hA k x hx
theorem cell_new (W : World) (x : Value) (t : TypeId) : (W.alloc (.cells #[x] t)).cell? ⟨W.heap.size, 0, none⟩ = some x := by simp
/-- the cells behind [i][j] of a table -/
theorem tab_at {w : World} {A : Option Addr} {c : Nat} {xss : List (List Int)} {k j : Nat} {xs : List Int} {x : Int} (h : IntSS w (.slice A xss.length c) xss) (hk : xss[k]? = some xs) (hj : xs[j]? = some x) :
    ∃ b off b1 off1 z, A = some ⟨b, off, none⟩ ∧ w.cell? ⟨b, off + k, none⟩ = some (.slice (some ⟨b1, off1, none⟩) xs.length z) ∧ xs.length ≤ z ∧ z ≤ 9223372036854775807 ∧ w.cell? ⟨b1, off1 + j, none⟩ = some (.int .i64 x) := by
  obtain ⟨A', c', e, _, _, hA⟩ := h
  cases e
  obtain ⟨b, off, u, hA', h1, hr⟩ := hA k xs hk
  obtain ⟨A1, z, rfl, h2, h3, hA1⟩ := hr
  obtain ⟨b1, off1, rfl, h4⟩ := hA1 j x hj
  unfold maxLen at h3
  exact ⟨b, off, b1, off1, z, hA', h1, h2, by omega, h4⟩
set_option maxRecDepth 100000 in
set_option maxHeartbeats 4000000 in
theorem maStart_any (ma mb mc md ve vi vn : Value) (m : Mac) (n : Net) (w : World) (hMa : MacIn w ma mb mc md m) (h : NetIn w ve vi vn n) (hAs : Asked m n) :
    Calls Tryz.prog 162 #[.agg #[.int .i64 m.degree, .int .i64 m.states, .int .i64 m.messages, ma, mb, mc, md], .agg #[ve, vi, vn]] w fun e w' => ∃ u, e = .returned u ∧ Own w' w.heap.size u (startB m n) ∧ Below w.heap.size w w' := by
  have hn40 := (netOk_len hAs.net).2
  have HAs := Lib.hid hAs
  clear hAs
  obtain ⟨w0, hw0⟩ : ∃ w0, w0 = ((w).alloc (.cells #[.int .i64 m.degree, .int .i64 m.states, .int .i64 m.messages, ma, mb, mc, md] 62)).alloc (.cells #[ve, vi, vn] 31) := ⟨_, rfl⟩
  have hb0 : Below w.heap.size w w0 := by rw [hw0]; exact (((Below.refl _ _).alloc (by simp <;> omega) _).alloc (by simp <;> omega) _)
  have H := Lib.hid (h.keep hb0)
  obtain ⟨h1, h2, h3⟩ := h.keep hb0
  obtain ⟨A, c, rfl, hlc, hm, hA⟩ := h1
  obtain ⟨A2, c2, rfl, _, hm2, _⟩ := h2
  obtain ⟨A3, c3, rfl, _, hm3, _⟩ := h3
  unfold maxLen at hm hm2 hm3
  have hkM := hMa.keep hb0
  have HM := Lib.hid hkM
  obtain ⟨M0, mz0, rfl, hlM0, hmM0, hMe0⟩ := id hkM.1
  unfold maxLen at hmM0
  have HMe0 := Lib.hid hMe0
  clear hMe0
  obtain ⟨M1, mz1, rfl, hlM1, hmM1, hMe1⟩ := id hkM.2.1
  unfold maxLen at hmM1
  have HMe1 := Lib.hid hMe1
  clear hMe1
  obtain ⟨M2, mz2, rfl, hlM2, hmM2, hMe2⟩ := id hkM.2.2.1
  unfold maxLen at hmM2
  have HMe2 := Lib.hid hMe2
  clear hMe2
  obtain ⟨M3, mz3, rfl, hlM3, hmM3, hMe3⟩ := id hkM.2.2.2
  unfold maxLen at hmM3
  have HMe3 := Lib.hid hMe3
  clear hMe3
  clear hkM hMa
  have p00 : ∀ W, Since w0 W → W.cell? ⟨w.heap.size, 0, none⟩ = some (.int .i64 m.degree) := have_cell (by rw [hw0]; simp)
  have p01 : ∀ W, Since w0 W → W.cell? ⟨w.heap.size, 1, none⟩ = some (.int .i64 m.states) := have_cell (by rw [hw0]; simp)
  have p02 : ∀ W, Since w0 W → W.cell? ⟨w.heap.size, 2, none⟩ = some (.int .i64 m.messages) := have_cell (by rw [hw0]; simp)
  have p03 : ∀ W, Since w0 W → W.cell? ⟨w.heap.size, 3, none⟩ = some (.slice M0 m.start.length mz0) := have_cell (by rw [hw0]; simp)
  have p04 : ∀ W, Since w0 W → W.cell? ⟨w.heap.size, 4, none⟩ = some (.slice M1 m.send.length mz1) := have_cell (by rw [hw0]; simp)
  have p05 : ∀ W, Since w0 W → W.cell? ⟨w.heap.size, 5, none⟩ = some (.slice M2 m.clauses.length mz2) := have_cell (by rw [hw0]; simp)
  have p06 : ∀ W, Since w0 W → W.cell? ⟨w.heap.size, 6, none⟩ = some (.slice M3 m.output.length mz3) := have_cell (by rw [hw0]; simp)
  have p10 : ∀ W, Since w0 W → W.cell? ⟨w.heap.size + 1, 0, none⟩ = some (.slice A n.ends.length c) := have_cell (by rw [hw0]; simp)
  have p11 : ∀ W, Since w0 W → W.cell? ⟨w.heap.size + 1, 1, none⟩ = some (.slice A2 n.ids.length c2) := have_cell (by rw [hw0]; simp)
  have p12 : ∀ W, Since w0 W → W.cell? ⟨w.heap.size + 1, 2, none⟩ = some (.slice A3 n.inputs.length c3) := have_cell (by rw [hw0]; simp)
  have Hb0 := Lib.hid hb0
  have Hw0 := Lib.hid hw0
  have HA := Lib.hid hA
  clear hA h
  clear hb0 hw0
  have hs0 : Since w0 w0 := since_refl _
  go_enter Tryz.func162, Tryz.ntmps162
  go_upto_region 1 with (fail)
  rw [← Hw0.out]
  go_wp2
  go_loopw [5, 11] (fun u i wr => ∃ k : Nat, k ≤ n.ends.length ∧ i = .int .i64 k ∧ Own wr w0.heap.size u ((startB m n).take k) ∧ Since w0 wr) (fun _ i _ => n.ends.length - (intOf i).toNat)
  case atStart => exact ⟨0, Nat.zero_le _, rfl, own_nil _ _, hs0⟩
  case round =>
    obtain ⟨k, hk, rfl, ho, hsr⟩ := hrel
    have Ho := Lib.hid ho
    clear ho hs0
    by_cases hlt : k < n.ends.length
    · obtain ⟨es, hes⟩ := getx n.ends k hlt
      obtain ⟨l, i, hl, hi, hi0, hilt, hst, -, -⟩ := start_cell HAs.out hes
      obtain ⟨iN, rfl⟩ := Int.eq_ofNat_of_zero_le hi0
      rw [Int.toNat_natCast] at hilt hst
      obtain ⟨y, hy⟩ := getx l iN hilt
      rw [getD_of hy] at hst
      obtain ⟨b, offr, cr, ur, hA1, hkr, hc1, hrow⟩ := row_at H.out.es hes
      cases hA1
      obtain ⟨A1, z1, rfl, hz1, hz2, _⟩ := hrow
      obtain ⟨b3, off3, hA3, hc3⟩ := ints_at H.out.2.2 hi
      obtain ⟨b4, off4, b5, off5, z5, hA4, hc4, hz5, hz6, hc5⟩ := tab_at HM.out.1 hl hy
      subst hA3 hA4
      have q1 := have_cell hc1
      have q3 := have_cell hc3
      have q4 := have_cell hc4
      have q5 := have_cell hc5
      have hsl := lt_of_get hl
      have hil2 := lt_of_get hi
      have Hst := Lib.hid hst
      have Hlen : Hid (((startB m n).take k).length + 1 ≤ 17592186044416) := by show _ ≤ _; rw [List.length_take]; omega
      obtain ⟨LL, hLL⟩ : ∃ LL, LL = (startB m n).take k := ⟨_, rfl⟩
      rw [← hLL] at Ho Hlen
      have HLL := Lib.hid hLL
      unfold maxLen at hz2
      clear hes hl hi hi0 hst hy hc1 hc3 hc4 hc5 hLL
      go_upto_region 5 with (fail)
      refine wp_region_chain0 (w0 := w0) 16 [false, false, false, false, false, false, false, false, false, false, false, false, false, false, true, true] (by kernel_rfl) (by kernel_rfl) (hsr) ?_
      simp only [selF, selT, List.take_succ_cons, List.take_zero, List.drop_succ_cons, List.drop_zero]
      refine pflow_val (v := ?_) rfl ?_ ?_; rotate_left; (intro W hW; go_simp; with_reducible rfl)
      simp only [Act.put, List.setIfInBounds_toArray, List.set_cons_succ, List.set_cons_zero]
      refine pflow_val (v := ?_) rfl ?_ ?_; rotate_left; (intro W hW; go_simp; with_reducible rfl)
      simp only [Act.put, List.setIfInBounds_toArray, List.set_cons_succ, List.set_cons_zero]
      refine pflow_val (v := ?_) rfl ?_ ?_; rotate_left; (intro W hW; go_simp; with_reducible rfl)
      simp only [Act.put, List.setIfInBounds_toArray, List.set_cons_succ, List.set_cons_zero]
      refine pflow_val (v := ?_) rfl ?_ ?_; rotate_left; (intro W hW; go_simp; with_reducible rfl)
      simp only [Act.put, List.setIfInBounds_toArray, List.set_cons_succ, List.set_cons_zero]
      refine pflow_val (v := ?_) rfl ?_ ?_; rotate_left; (intro W hW; go_simp; with_reducible rfl)
      simp only [Act.put, List.setIfInBounds_toArray, List.set_cons_succ, List.set_cons_zero]
      refine pflow_val (v := ?_) rfl ?_ ?_; rotate_left; (intro W hW; go_simp; with_reducible rfl)
      simp only [Act.put, List.setIfInBounds_toArray, List.set_cons_succ, List.set_cons_zero]
      refine pflow_val (v := ?_) rfl ?_ ?_; rotate_left; (intro W hW; go_simp; with_reducible rfl)
      simp only [Act.put, List.setIfInBounds_toArray, List.set_cons_succ, List.set_cons_zero]
      refine pflow_val (v := ?_) rfl ?_ ?_; rotate_left; (intro W hW; go_simp; with_reducible rfl)
      simp only [Act.put, List.setIfInBounds_toArray, List.set_cons_succ, List.set_cons_zero]
      refine pflow_val (v := ?_) rfl ?_ ?_; rotate_left; (intro W hW; go_simp; with_reducible rfl)
      simp only [Act.put, List.setIfInBounds_toArray, List.set_cons_succ, List.set_cons_zero]
      refine pflow_val (v := ?_) rfl ?_ ?_; rotate_left; (intro W hW; go_simp; with_reducible rfl)
      simp only [Act.put, List.setIfInBounds_toArray, List.set_cons_succ, List.set_cons_zero]
      refine pflow_val (v := ?_) rfl ?_ ?_; rotate_left; (intro W hW; go_simp; with_reducible rfl)
      simp only [Act.put, List.setIfInBounds_toArray, List.set_cons_succ, List.set_cons_zero]
      refine pflow_val (v := ?_) rfl ?_ ?_; rotate_left; (intro W hW; go_simp; with_reducible rfl)
      simp only [Act.put, List.setIfInBounds_toArray, List.set_cons_succ, List.set_cons_zero]
      refine pflow_val (v := ?_) rfl ?_ ?_; rotate_left; (intro W hW; go_simp; with_reducible rfl)
      simp only [Act.put, List.setIfInBounds_toArray, List.set_cons_succ, List.set_cons_zero]
      refine pflow_val (v := ?_) rfl ?_ ?_; rotate_left; (intro W hW; go_simp; with_reducible rfl)
      simp only [Act.put, List.setIfInBounds_toArray, List.set_cons_succ, List.set_cons_zero]
      obtain ⟨W, hWd⟩ : ∃ W, W = World.drew wr := ⟨_, rfl⟩
      rw [← hWd]
      have hW : Since w0 W := by rw [hWd]; exact since_drew (hsr)
      (try have HWd := Lib.hid hWd)
      (try clear hWd)
      refine tflow_alloc (v := ?_) (ob := ?_) rfl ?_ hW ?_; rotate_left 2
      (go_simp; first | with_reducible rfl | (refine ⟨?_, ?_⟩ <;> with_reducible rfl))
      intro w8 hw8d hw8s
      replace hW := hw8s
      clear hw8s
      have Ho8 : Hid (Own w8 w0.heap.size u5 LL) := by show Own _ _ _ _; rw [hw8d, HWd.out]; exact Own.since Ho.out (since_alloc _ (since_drew (since_refl _)))
      have Hc8 : Hid (w8.cell? ⟨wr.heap.size, 0, none⟩ = some (.int .i64 y)) := by show _ = _; rw [hw8d, HWd.out]; exact cell_new (World.drew wr) _ _
      rw [show W.heap.size = wr.heap.size from by rw [HWd.out]; rfl]
      clear hw8d HWd
      (try simp only [Act.put, List.setIfInBounds_toArray, List.set_cons_succ, List.set_cons_zero])
      refine tflow_of_wp (fun Q' HQ => ?_)
      (refine app_int_s (w0 := w0) rfl _ _ rfl rfl Ho8.out wr.heap.size y rfl Hc8.out Hlen.out hW ?_); intro g9 cc9 w9 ho9 hs9; refine HQ _ _ hs9 ?_; have Ho9 := Lib.hid ho9; replace hW := hs9; clear ho9 hs9
      (try simp only [Act.put, List.setIfInBounds_toArray, List.set_cons_succ, List.set_cons_zero])
      simp only [TFlow]
      have HW9 := Lib.hid hW
      clear hW hsr q1 q3 q4 q5
      go_wp2
      go_roundw
      case rel => exact ⟨k + 1, by omega, by go_num, by rw [start_take Hst.out, ← HLL.out]; exact Ho9.out, HW9.out⟩
      case measure => simp [intOf]; omega
    · obtain rfl : k = n.ends.length := by omega
      have HS := Lib.hid hsr
      clear hsr
      go_wp2
      go_ret
      refine ⟨_, rfl, ?_, Since.after Hb0.out HS.out⟩
      have h9 := Ho.out
      rw [List.take_of_length_le (by rw [startB_len]; exact Nat.le_refl _)] at h9
      exact Own.mono h9 Hb0.out.size
set_option maxRecDepth 100000 in
set_option maxHeartbeats 4000000 in
theorem startStates_any (ma mb mc md ve vi vn : Value) (m : Mac) (n : Net) (w : World) (hMa : MacIn w ma mb mc md m) (h : NetIn w ve vi vn n) (hAs : Asked m n) :
    Calls Tryz.prog 166 #[.agg #[.int .i64 m.degree, .int .i64 m.states, .int .i64 m.messages, ma, mb, mc, md], .agg #[ve, vi, vn]] w fun e w' => ∃ u, e = .returned u ∧ Own w' w.heap.size u (startB m n) ∧ Below w.heap.size w w' := by
  have hn40 := (netOk_len hAs.net).2
  have HAs := Lib.hid hAs
  clear hAs
  obtain ⟨w0, hw0⟩ : ∃ w0, w0 = ((w).alloc (.cells #[.int .i64 m.degree, .int .i64 m.states, .int .i64 m.messages, ma, mb, mc, md] 62)).alloc (.cells #[ve, vi, vn] 31) := ⟨_, rfl⟩
  have hb0 : Below w.heap.size w w0 := by rw [hw0]; exact (((Below.refl _ _).alloc (by simp <;> omega) _).alloc (by simp <;> omega) _)
  have H := Lib.hid (h.keep hb0)
  obtain ⟨h1, h2, h3⟩ := h.keep hb0
  obtain ⟨A, c, rfl, hlc, hm, hA⟩ := h1
  obtain ⟨A2, c2, rfl, _, hm2, _⟩ := h2
  obtain ⟨A3, c3, rfl, _, hm3, _⟩ := h3
  unfold maxLen at hm hm2 hm3
  have hkM := hMa.keep hb0
  have HM := Lib.hid hkM
  obtain ⟨M0, mz0, rfl, hlM0, hmM0, hMe0⟩ := id hkM.1
  unfold maxLen at hmM0
  have HMe0 := Lib.hid hMe0
  clear hMe0
  obtain ⟨M1, mz1, rfl, hlM1, hmM1, hMe1⟩ := id hkM.2.1
  unfold maxLen at hmM1
  have HMe1 := Lib.hid hMe1
  clear hMe1
  obtain ⟨M2, mz2, rfl, hlM2, hmM2, hMe2⟩ := id hkM.2.2.1
  unfold maxLen at hmM2
  have HMe2 := Lib.hid hMe2
  clear hMe2
  obtain ⟨M3, mz3, rfl, hlM3, hmM3, hMe3⟩ := id hkM.2.2.2
  unfold maxLen at hmM3
  have HMe3 := Lib.hid hMe3
  clear hMe3
  clear hkM hMa
  have p00 : ∀ W, Since w0 W → W.cell? ⟨w.heap.size, 0, none⟩ = some (.int .i64 m.degree) := have_cell (by rw [hw0]; simp)
  have p01 : ∀ W, Since w0 W → W.cell? ⟨w.heap.size, 1, none⟩ = some (.int .i64 m.states) := have_cell (by rw [hw0]; simp)
  have p02 : ∀ W, Since w0 W → W.cell? ⟨w.heap.size, 2, none⟩ = some (.int .i64 m.messages) := have_cell (by rw [hw0]; simp)
  have p03 : ∀ W, Since w0 W → W.cell? ⟨w.heap.size, 3, none⟩ = some (.slice M0 m.start.length mz0) := have_cell (by rw [hw0]; simp)
  have p04 : ∀ W, Since w0 W → W.cell? ⟨w.heap.size, 4, none⟩ = some (.slice M1 m.send.length mz1) := have_cell (by rw [hw0]; simp)
  have p05 : ∀ W, Since w0 W → W.cell? ⟨w.heap.size, 5, none⟩ = some (.slice M2 m.clauses.length mz2) := have_cell (by rw [hw0]; simp)
  have p06 : ∀ W, Since w0 W → W.cell? ⟨w.heap.size, 6, none⟩ = some (.slice M3 m.output.length mz3) := have_cell (by rw [hw0]; simp)
  have p10 : ∀ W, Since w0 W → W.cell? ⟨w.heap.size + 1, 0, none⟩ = some (.slice A n.ends.length c) := have_cell (by rw [hw0]; simp)
  have p11 : ∀ W, Since w0 W → W.cell? ⟨w.heap.size + 1, 1, none⟩ = some (.slice A2 n.ids.length c2) := have_cell (by rw [hw0]; simp)
  have p12 : ∀ W, Since w0 W → W.cell? ⟨w.heap.size + 1, 2, none⟩ = some (.slice A3 n.inputs.length c3) := have_cell (by rw [hw0]; simp)
  have Hb0 := Lib.hid hb0
  have Hw0 := Lib.hid hw0
  have HA := Lib.hid hA
  clear hA h
  clear hb0 hw0
  have hs0 : Since w0 w0 := since_refl _
  go_enter Tryz.func166, Tryz.ntmps166
  go_upto_region 1 with (fail)
  rw [← Hw0.out]
  go_wp2
  go_loopw [5, 11] (fun u i wr => ∃ k : Nat, k ≤ n.ends.length ∧ i = .int .i64 k ∧ Own wr w0.heap.size u ((startB m n).take k) ∧ Since w0 wr) (fun _ i _ => n.ends.length - (intOf i).toNat)
  case atStart => exact ⟨0, Nat.zero_le _, rfl, own_nil _ _, hs0⟩
  case round =>
    obtain ⟨k, hk, rfl, ho, hsr⟩ := hrel
    have Ho := Lib.hid ho
    clear ho hs0
    by_cases hlt : k < n.ends.length
    · obtain ⟨es, hes⟩ := getx n.ends k hlt
      obtain ⟨l, i, hl, hi, hi0, hilt, hst, -, -⟩ := start_cell HAs.out hes
      obtain ⟨iN, rfl⟩ := Int.eq_ofNat_of_zero_le hi0
      rw [Int.toNat_natCast] at hilt hst
      obtain ⟨y, hy⟩ := getx l iN hilt
      rw [getD_of hy] at hst
      obtain ⟨b, offr, cr, ur, hA1, hkr, hc1, hrow⟩ := row_at H.out.es hes
      cases hA1
      obtain ⟨A1, z1, rfl, hz1, hz2, _⟩ := hrow
      obtain ⟨b3, off3, hA3, hc3⟩ := ints_at H.out.2.2 hi
      obtain ⟨b4, off4, b5, off5, z5, hA4, hc4, hz5, hz6, hc5⟩ := tab_at HM.out.1 hl hy
      subst hA3 hA4
      have q1 := have_cell hc1
      have q3 := have_cell hc3
      have q4 := have_cell hc4
      have q5 := have_cell hc5
      have hsl := lt_of_get hl
      have hil2 := lt_of_get hi
      have Hst := Lib.hid hst
      have Hlen : Hid (((startB m n).take k).length + 1 ≤ 17592186044416) := by show _ ≤ _; rw [List.length_take]; omega
      obtain ⟨LL, hLL⟩ : ∃ LL, LL = (startB m n).take k := ⟨_, rfl⟩
      rw [← hLL] at Ho Hlen
      have HLL := Lib.hid hLL
      unfold maxLen at hz2
      clear hes hl hi hi0 hst hy hc1 hc3 hc4 hc5 hLL
      go_upto_region 5 with (fail)
      refine wp_region_chain0 (w0 := w0) 16 [false, false, false, false, false, false, false, false, false, false, false, false, false, false, true, true] (by kernel_rfl) (by kernel_rfl) (hsr) ?_
      simp only [selF, selT, List.take_succ_cons, List.take_zero, List.drop_succ_cons, List.drop_zero]
      refine pflow_val (v := ?_) rfl ?_ ?_; rotate_left; (intro W hW; go_simp; with_reducible rfl)
      simp only [Act.put, List.setIfInBounds_toArray, List.set_cons_succ, List.set_cons_zero]
      refine pflow_val (v := ?_) rfl ?_ ?_; rotate_left; (intro W hW; go_simp; with_reducible rfl)
      simp only [Act.put, List.setIfInBounds_toArray, List.set_cons_succ, List.set_cons_zero]
      refine pflow_val (v := ?_) rfl ?_ ?_; rotate_left; (intro W hW; go_simp; with_reducible rfl)
      simp only [Act.put, List.setIfInBounds_toArray, List.set_cons_succ, List.set_cons_zero]
      refine pflow_val (v := ?_) rfl ?_ ?_; rotate_left; (intro W hW; go_simp; with_reducible rfl)
      simp only [Act.put, List.setIfInBounds_toArray, List.set_cons_succ, List.set_cons_zero]
      refine pflow_val (v := ?_) rfl ?_ ?_; rotate_left; (intro W hW; go_simp; with_reducible rfl)
      simp only [Act.put, List.setIfInBounds_toArray, List.set_cons_succ, List.set_cons_zero]
      refine pflow_val (v := ?_) rfl ?_ ?_; rotate_left; (intro W hW; go_simp; with_reducible rfl)
      simp only [Act.put, List.setIfInBounds_toArray, List.set_cons_succ, List.set_cons_zero]
      refine pflow_val (v := ?_) rfl ?_ ?_; rotate_left; (intro W hW; go_simp; with_reducible rfl)
      simp only [Act.put, List.setIfInBounds_toArray, List.set_cons_succ, List.set_cons_zero]
      refine pflow_val (v := ?_) rfl ?_ ?_; rotate_left; (intro W hW; go_simp; with_reducible rfl)
      simp only [Act.put, List.setIfInBounds_toArray, List.set_cons_succ, List.set_cons_zero]
      refine pflow_val (v := ?_) rfl ?_ ?_; rotate_left; (intro W hW; go_simp; with_reducible rfl)
      simp only [Act.put, List.setIfInBounds_toArray, List.set_cons_succ, List.set_cons_zero]
      refine pflow_val (v := ?_) rfl ?_ ?_; rotate_left; (intro W hW; go_simp; with_reducible rfl)
      simp only [Act.put, List.setIfInBounds_toArray, List.set_cons_succ, List.set_cons_zero]
      refine pflow_val (v := ?_) rfl ?_ ?_; rotate_left; (intro W hW; go_simp; with_reducible rfl)
      simp only [Act.put, List.setIfInBounds_toArray, List.set_cons_succ, List.set_cons_zero]
      refine pflow_val (v := ?_) rfl ?_ ?_; rotate_left; (intro W hW; go_simp; with_reducible rfl)
      simp only [Act.put, List.setIfInBounds_toArray, List.set_cons_succ, List.set_cons_zero]
      refine pflow_val (v := ?_) rfl ?_ ?_; rotate_left; (intro W hW; go_simp; with_reducible rfl)
      simp only [Act.put, List.setIfInBounds_toArray, List.set_cons_succ, List.set_cons_zero]
      refine pflow_val (v := ?_) rfl ?_ ?_; rotate_left; (intro W hW; go_simp; with_reducible rfl)
      simp only [Act.put, List.setIfInBounds_toArray, List.set_cons_succ, List.set_cons_zero]
      obtain ⟨W, hWd⟩ : ∃ W, W = World.drew wr := ⟨_, rfl⟩
      rw [← hWd]
      have hW : Since w0 W := by rw [hWd]; exact since_drew (hsr)
      (try have HWd := Lib.hid hWd)
      (try clear hWd)
      refine tflow_alloc (v := ?_) (ob := ?_) rfl ?_ hW ?_; rotate_left 2
      (go_simp; first | with_reducible rfl | (refine ⟨?_, ?_⟩ <;> with_reducible rfl))
      intro w8 hw8d hw8s
      replace hW := hw8s
      clear hw8s
      have Ho8 : Hid (Own w8 w0.heap.size u5 LL) := by show Own _ _ _ _; rw [hw8d, HWd.out]; exact Own.since Ho.out (since_alloc _ (since_drew (since_refl _)))
      have Hc8 : Hid (w8.cell? ⟨wr.heap.size, 0, none⟩ = some (.int .i64 y)) := by show _ = _; rw [hw8d, HWd.out]; exact cell_new (World.drew wr) _ _
      rw [show W.heap.size = wr.heap.size from by rw [HWd.out]; rfl]
      clear hw8d HWd
      (try simp only [Act.put, List.setIfInBounds_toArray, List.set_cons_succ, List.set_cons_zero])
      refine tflow_of_wp (fun Q' HQ => ?_)
      (refine app_int_s (w0 := w0) rfl _ _ rfl rfl Ho8.out wr.heap.size y rfl Hc8.out Hlen.out hW ?_); intro g9 cc9 w9 ho9 hs9; refine HQ _ _ hs9 ?_; have Ho9 := Lib.hid ho9; replace hW := hs9; clear ho9 hs9
      (try simp only [Act.put, List.setIfInBounds_toArray, List.set_cons_succ, List.set_cons_zero])
      simp only [TFlow]
      have HW9 := Lib.hid hW
      clear hW hsr q1 q3 q4 q5
      go_wp2
      go_roundw
      case rel => exact ⟨k + 1, by omega, by go_num, by rw [start_take Hst.out, ← HLL.out]; exact Ho9.out, HW9.out⟩
      case measure => simp [intOf]; omega
    · obtain rfl : k = n.ends.length := by omega
      have HS := Lib.hid hsr
      clear hsr
      go_wp2
      go_ret
      refine ⟨_, rfl, ?_, Since.after Hb0.out HS.out⟩
      have h9 := Ho.out
      rw [List.take_of_length_le (by rw [startB_len]; exact Nat.le_refl _)] at h9
      exact Own.mono h9 Hb0.out.size
end Go.Proofs.YtlfehdikgbgloaaGreat
namespace Go.Proofs.YtlfehdikgbgloaaGreat
open Go Go.RowKit
/-! as wp_region_chain0, for any worlds S that the reads bear -/
section
variable {P : Program} {ops : Array Oper}
/-- reads, in the order of the text -/
def PFlowS (P : Program) (ops : Array Oper) (S : World → Prop) (fin : Act → Prop) : List Oper → Act → Prop
  | [], A => fin A
  | o :: rest, A => ∃ v, (Region.wanted o (yielded ops A.tmps) = true ∧ ∀ W, S W → (execOp A.eval o).run P W = .ok (.value v) W) ∧ PFlowS P ops S fin rest (A.put o.dst v)
theorem pflowS_val {S : World → Prop} {fin : Act → Prop} {o : Oper} {rest : List Oper} {A : Act} {v : Value} (hw : Region.wanted o (yielded ops A.tmps) = true) (h : ∀ W, S W → (execOp A.eval o).run P W = .ok (.value v) W)
    (hr : PFlowS P ops S fin rest (A.put o.dst v)) : PFlowS P ops S fin (o :: rest) A := ⟨v, ⟨hw, h⟩, hr⟩
theorem pflowS_frames {S : World → Prop} {fin : Act → Prop} (l : List Oper) : ∀ (A : Act), PFlowS P ops S fin l A →
    ∃ (vals : Nat → Value) (F : Nat → Act), F 0 = A ∧ fin (F l.length) ∧ ∀ i o, l[i]? = some o → (Region.wanted o (yielded ops (F i).tmps) = true ∧ ∀ W, S W → (execOp (F i).eval o).run P W = .ok (.value (vals i)) W) ∧ F (i + 1) = (F i).put o.dst (vals i) := by
  induction l with
  | nil => intro A h; exact ⟨fun _ => undef, fun _ => A, rfl, h, fun i o h => by simp at h⟩
  | cons o l ih =>
    intro A h
    obtain ⟨v, hs, hf⟩ := h
    obtain ⟨vals, F, h0, hfin, hstep⟩ := ih _ hf
    refine ⟨fun i => match i with | 0 => v | i + 1 => vals i, fun i => match i with | 0 => A | i + 1 => F i, rfl, hfin, ?_⟩
    intro i o' hi
    cases i with
    | zero => simp at hi; subst hi; exact ⟨hs, h0⟩
    | succ i => exact hstep i o' (by simpa using hi)
theorem wp_region_chainS {Q : Exit → Act → World → Prop} {rid : Nat} {a : Act} {w : World} (S : World → Prop) (k : Nat) (mask : List Bool) (hm : P.follows .mixedOrders = true) (hc : chainB ops k mask = true) (hs0 : S w.drew)
    (h : PFlowS P ops S (fun A => TFlow P ops S (fun A W => wpList P ops Q (ops.toList.drop k) A W) (selT mask (ops.toList.take k)) A w.drew) (selF mask (ops.toList.take k)) a) : (Code.region rid ops true).wp P Q a w := by
  unfold chainB at hc
  simp only [Bool.and_eq_true, decide_eq_true_eq] at hc
  obtain ⟨⟨⟨hf, hml⟩, hkn⟩, hch⟩ := hc
  have hok := flow_ok hf
  have hlt : mask.length = (ops.toList.take k).length := by simp; omega
  have hmk : ∀ i, i < k → ∃ b, mask[i]? = some b := fun i hi => ⟨_, List.getElem?_eq_getElem (by omega)⟩
  have hget : ∀ i o, i < k → ops[i]? = some o → (ops.toList.take k)[i]? = some o := fun i o hi ho => by
    rw [List.getElem?_take, if_pos hi]; simpa using ho
  have hmd : ∀ i b, mask[i]? = some b → mask.getD i true = b := fun i b hb => by rw [List.getD_eq_getElem?_getD, hb]; rfl
  have hml' : ∀ i b, mask[i]? = some b → i < k := fun i b hb => by have := (List.getElem?_eq_some_iff.1 hb).1; omega
  have chT : ∀ i j, mask[i]? = some true → mask[j]? = some true → j < i → Anc ops j i := fun i j hi hj hji => by
    have hik := hml' i _ hi
    have ho : ops[i]? = some ops[i] := Array.getElem?_eq_getElem (by omega)
    have := List.all_eq_true.1 hch i (List.mem_range.2 hik)
    simp only [ho] at this
    rw [if_pos (hmd i _ hi)] at this
    have := List.all_eq_true.1 this j (List.mem_range.2 hji)
    rw [hmd j _ hj, Bool.not_true, Bool.false_or] at this
    exact closTbl_sound (i + 1) i j (by simpa using this)
  have chF : ∀ i o j, mask[i]? = some false → ops[i]? = some o → j ∈ depsOf o → mask[j]? = some false := fun i o j hi ho hj => by
    have hik := hml' i _ hi
    have hji := hok.back i o ho j hj
    have := List.all_eq_true.1 hch i (List.mem_range.2 hik)
    simp only [ho] at this
    rw [if_neg (by rw [hmd i _ hi]; simp)] at this
    have := List.all_eq_true.1 this j hj
    obtain ⟨b, hb⟩ := hmk j (by omega)
    rw [hmd j _ hb] at this
    cases b <;> simp_all
  obtain ⟨vals, F, h0, hfin, hst⟩ := pflowS_frames _ a h
  -- the frames of the reads
  have hpure : ∀ r, r ≤ mask.count false → FrameIs a ops (fun j => vals (rk false mask j)) (fun j => mask[j]? = some false ∧ rk false mask j < r) (F r) := by
    intro r
    induction r with
    | zero => intro _; rw [h0]; exact ⟨rfl, rfl, fun j _ _ hj => by have := hj.2; omega, fun _ _ => rfl⟩
    | succ r ih =>
      intro hr
      obtain ⟨i, hi1, hi2⟩ := rk_has (b := false) mask r (by omega)
      have hik := hml' i _ hi1
      have ho : ops[i]? = some ops[i] := Array.getElem?_eq_getElem (by omega)
      have hsel := selF_rk mask _ i hlt hi1
      rw [hget i _ hik ho, hi2] at hsel
      rw [(hst r _ hsel).2]
      have := ((ih (by omega)).put ho (fun j oj d hj hoj hd hd2 => by
        have := hok.dsts i _ hik ho j oj (hml' j _ hj.1) hoj d hd hd2
        subst this
        have := hj.2
        omega)).same (E := fun j => mask[j]? = some false ∧ rk false mask j < r + 1) (fun j => by
          constructor
          · rintro (⟨a1, a2⟩ | rfl)
            · exact ⟨a1, by omega⟩
            · exact ⟨hi1, by omega⟩
          · rintro ⟨a1, a2⟩
            by_cases e : rk false mask j = r
            · exact .inr (rk_inj a1 hi1 (by omega))
            · exact .inl ⟨a1, by omega⟩)
      rw [show vals r = vals (rk false mask i) by rw [hi2]]
      exact this
  have hnF : (selF mask (ops.toList.take k)).length = mask.count false := selF_len _ _ hlt
  rw [hnF] at hfin
  let SP : Nat → Prop := fun j => mask[j]? = some false
  let J : (Nat → Prop) → Act → World → Prop := fun D a' W =>
    (S W ∧ (∀ j, D j → j < k) ∧ ∃ (V : Nat → Value) (q : Nat) (A : Act), (∀ j, mask[j]? = some false → V j = vals (rk false mask j)) ∧ (∀ j, mask[j]? = some true → (D j ↔ rk true mask j < q)) ∧
      FrameIs a ops V D a' ∧ FrameIs a ops V (fun j => mask[j]? = some false ∨ (mask[j]? = some true ∧ rk true mask j < q)) A ∧
      TFlow P ops S (fun A W => wpList P ops Q (ops.toList.drop k) A W) ((selT mask (ops.toList.take k)).drop q) A W) ∨
    (∃ m, k ≤ m ∧ m ≤ ops.size ∧ (∀ j, j < ops.size → (D j ↔ j < m)) ∧ wpList P ops Q (ops.toList.drop m) a' W)
  have htl : (selT mask (ops.toList.take k)).length = mask.count true := selT_len _ _ hlt
  -- the first k are done
  have full : ∀ D a' W, J D a' W → (∀ j, j < k → D j) → ∃ m, k ≤ m ∧ m ≤ ops.size ∧ (∀ j, j < ops.size → (D j ↔ j < m)) ∧ wpList P ops Q (ops.toList.drop m) a' W := by
    intro D a' W hJ hD
    rcases hJ with ⟨hW, hDk, V, q, A, hV, hT, hfr, hfA, htf⟩ | hJ
    · have hq : mask.count true ≤ q := by
        by_cases e : mask.count true ≤ q
        · exact e
        · obtain ⟨i, hi1, hi2⟩ := rk_has (b := true) mask q (by omega)
          have := (hT i hi1).1 (hD i (hml' i _ hi1))
          omega
      have enil : (selT mask (ops.toList.take k)).drop q = [] := List.drop_eq_nil_of_le (by omega)
      rw [enil] at htf
      have : a' = A := hfr.ext hfA (fun j hj => by
        constructor
        · intro hj'
          obtain ⟨b, hb⟩ := hmk j (hDk j hj')
          cases b
          · exact .inl hb
          · exact .inr ⟨hb, (hT j hb).1 hj'⟩
        · rintro (hb | ⟨hb, _⟩) <;> exact hD j (hml' j _ hb))
      subst this
      exact ⟨k, Nat.le_refl _, hkn, fun j _ => ⟨fun h => hDk j h, fun h => hD j h⟩, htf⟩
    · exact hJ
  refine wp_region_inv2 hm hok.back J (.inl ⟨hs0, fun j hj => hj.elim, fun j => vals (rk false mask j), 0, F (mask.count false), fun j _ => rfl, fun j _ => ⟨fun h => h.elim, fun h => by omega⟩, ⟨rfl, rfl, fun j _ _ hj => hj.elim, fun _ _ => rfl⟩, ?_, ?_⟩) ?_ ?_
  · exact (hpure _ (Nat.le_refl _)).same (fun j => by
      constructor
      · rintro ⟨a1, -⟩; exact .inl a1
      · rintro (a1 | ⟨-, a2⟩)
        · exact ⟨a1, rk_lt_count a1⟩
        · omega)
  · rw [List.drop_zero]; exact hfin
  · intro D a' W i o hJ ho hDi hdep hcl
    have hin : i < ops.size := (Array.getElem?_eq_some_iff.1 ho).1
    by_cases hik : i < k
    · -- one of the first k
      rcases hJ with ⟨hW, hDk, V, q, A, hV, hT, hfr, hfA, htf⟩ | ⟨m, h1, h2, h3, -⟩
      rotate_left
      · exact absurd ((h3 i hin).2 (by omega)) hDi
      have look : ∀ t ∈ o.looksAt ops, ∀ j oj, j < k → ops[j]? = some oj → oj.dst = some t → D j ∧ j ∈ depsOf o := fun t ht j oj hjk hoj hd => by
        have := hok.looks i o hik ho t ht j oj hjk hoj hd
        exact ⟨hdep j this, this⟩
      have dist : ∀ j oj d, D j → ops[j]? = some oj → o.dst = some d → oj.dst ≠ some d := fun j oj d hj hoj hd hd2 => by
        have := hok.dsts i o hik ho j oj (hDk j hj) hoj d hd hd2
        subst this
        exact hDi hj
      obtain ⟨b, hb⟩ := hmk i hik
      cases b with
      | false =>
        have hsel := selF_rk mask _ i hlt hb
        rw [hget i _ hik ho] at hsel
        obtain ⟨⟨hw, hrun⟩, -⟩ := hst _ _ hsel
        have hr := rk_lt_count hb
        obtain ⟨he, hw'⟩ := agree_exec (ops := ops) (a' := a') (A := F (rk false mask i)) (fun t ht => (hfr.vals2 (v' := V) (fun _ _ _ => rfl)).agree ((hpure _ (Nat.le_of_lt hr)).vals (v' := V) (fun j hj => (hV j hj.1).symm)) t (fun j oj hj hoj hd => by
          have hjk : j < k := hj.elim (fun h => hDk j h) (fun h => hml' j _ h.1)
          obtain ⟨d1, d2⟩ := look t ht j oj hjk hoj hd
          have hjf := chF i o j hb ho d2
          exact ⟨d1, hjf, rk_lt (hok.back i o ho j d2) hjf⟩)) (fun cs b => hok.nosel i o cs b ho)
        rw [if_pos (hw'.trans hw)]
        refine .inl ?_
        unfold Oper.wp
        rw [he, hrun W hW]
        refine .inl ⟨hW, fun j hj => hj.elim (fun h => hDk j h) (fun h => by omega), V, q, A, hV, fun j hj => ?_, ?_, hfA, htf⟩
        · rw [← hT j hj]
          constructor
          · rintro (h | rfl)
            · exact h
            · rw [hb] at hj; cases hj
          · exact .inl
        · have := hfr.put (i := i) ho dist
          rwa [hV i hb] at this
      | true =>
        have hq : rk true mask i = q := by
          have h1 : ¬ rk true mask i < q := fun h => hDi ((hT i hb).2 h)
          by_cases e : rk true mask i = q
          · exact e
          · obtain ⟨j, hj1, hj2⟩ := rk_has (b := true) mask q (by have := rk_lt_count hb; omega)
            have hji : j < i := by
              rcases Nat.lt_trichotomy j i with h | h | h
              · exact h
              · subst h; omega
              · have := rk_lt h hb; omega
            have := anc_ready hcl ho hdep (chT i j hb hj1 hji)
            have := (hT j hj1).1 this
            omega
        have hsel := selT_rk mask _ i hlt hb
        rw [hget i _ hik ho, hq] at hsel
        have hqn : q < (selT mask (ops.toList.take k)).length := (List.getElem?_eq_some_iff.1 hsel).1
        rw [List.drop_eq_getElem_cons hqn, (List.getElem?_eq_some_iff.1 hsel).2] at htf
        obtain ⟨he, hw'⟩ := agree_exec (ops := ops) (a' := a') (A := A) (fun t ht => hfr.agree hfA t (fun j oj hj hoj hd => by
          have hjk : j < k := hj.elim (fun h => hDk j h) (fun h => h.elim (hml' j _) (fun h => hml' j _ h.1))
          obtain ⟨d1, d2⟩ := look t ht j oj hjk hoj hd
          refine ⟨d1, ?_⟩
          obtain ⟨b, hb'⟩ := hmk j hjk
          cases b
          · exact .inl hb'
          · exact .inr ⟨hb', (hT j hb').1 d1⟩)) (fun cs b => hok.nosel i o cs b ho)
        have next : ∀ u W', S W' → TFlow P ops S (fun A W => wpList P ops Q (ops.toList.drop k) A W) ((selT mask (ops.toList.take k)).drop (q + 1)) (A.put o.dst u) W' → J (fun j => D j ∨ j = i) (a'.put o.dst u) W' := by
          intro u W' hS ht
          let V' : Nat → Value := fun j => if j = i then u else V j
          have e1 : ∀ j, j ≠ i → V' j = V j := fun j hj => if_neg hj
          have e2 : V' i = u := if_pos rfl
          refine .inl ⟨hS, fun j hj => hj.elim (fun h => hDk j h) (fun h => by omega), V', q + 1, A.put o.dst u, fun j hj => ?_, fun j hj => ?_, ?_, ?_, ht⟩
          · rw [e1 j (fun e => by subst e; rw [hb] at hj; cases hj)]; exact hV j hj
          · constructor
            · rintro (h | rfl)
              · have := (hT j hj).1 h; omega
              · omega
            · intro h
              by_cases e : rk true mask j = q
              · exact .inr (rk_inj hj hb (by omega))
              · exact .inl ((hT j hj).2 (by omega))
          · have := (hfr.vals2 (v' := V') (fun j _ hj => (e1 j (fun e => by subst e; exact hDi hj)).symm)).put (i := i) ho dist
            rwa [e2] at this
          · have := ((hfA.vals2 (v' := V') (fun j _ hj => (e1 j (fun e => by
              subst e
              rcases hj with hj | ⟨-, hj⟩
              · rw [hb] at hj; cases hj
              · omega)).symm)).put (i := i) ho (fun j oj d hj hoj hd hd2 => by
                have hjk : j < k := hj.elim (hml' j _) (fun h => hml' j _ h.1)
                have := hok.dsts i o hik ho j oj hjk hoj d hd hd2
                subst this
                rcases hj with hj | ⟨-, hj⟩
                · rw [hb] at hj; cases hj
                · omega)).same (E := fun j => mask[j]? = some false ∨ (mask[j]? = some true ∧ rk true mask j < q + 1)) (fun j => by
                constructor
                · rintro ((h | ⟨h, h'⟩) | rfl)
                  · exact .inl h
                  · exact .inr ⟨h, by omega⟩
                  · exact .inr ⟨hb, by omega⟩
                · rintro (h | ⟨h, h'⟩)
                  · exact .inl (.inl h)
                  · by_cases e : rk true mask j = q
                    · exact .inr (rk_inj h hb (by omega))
                    · exact .inl (.inr ⟨h, by omega⟩))
            rwa [e2] at this
        rcases htf with ⟨hw, hrun⟩ | ⟨hw, hrun⟩
        · rw [if_pos (hw'.trans hw)]
          refine .inl ?_
          unfold Oper.wp
          rw [he]
          generalize (execOp A.eval o).run P W = r at hrun ⊢
          cases r with
          | ok nx W' =>
            cases nx with
            | value u => exact next u W' hrun.1 hrun.2
            | skip => exact next undef W' hrun.1 hrun.2
            | row row args => exact Rows.mono hrun fun u W'' h => next u W'' h.1 h.2
            | enter f args =>
              simp only [Oper.upon]
              exact Calls.mono hrun fun e W'' ⟨u, he', h3, h4⟩ => by subst he'; exact next u W'' h3 h4
            | _ => exact hrun.elim
          | halt x W' => exact hrun.elim
        · rw [if_neg (by rw [hw'.trans hw]; simp)]
          exact next _ _ hW hrun
    · -- the tail
      have hall : ∀ j, j < i → D j := fun j hj => anc_ready hcl ho hdep (hok.tail i (by omega) hin j hj)
      obtain ⟨m, h1, h2, h3, h4⟩ := full D a' W hJ (fun j hj => hall j (by omega))
      have hmi : m = i := by
        by_cases e1 : i < m
        · exact absurd ((h3 i hin).2 e1) hDi
        · by_cases e2 : m < i
          · have := (h3 m (by omega)).1 (hall m e2); omega
          · omega
      subst hmi
      have hdr : ops.toList.drop m = o :: ops.toList.drop (m + 1) := by
        have : m < ops.toList.length := by simpa using hin
        rw [List.drop_eq_getElem_cons this]
        congr 1
        have := (Array.getElem?_eq_some_iff.1 ho).2
        simpa using this
      rw [hdr] at h4
      unfold wpList at h4
      have next : ∀ a W, wpList P ops Q (ops.toList.drop (m + 1)) a W → J (fun j => D j ∨ j = m) a W := fun a W h => .inr ⟨m + 1, by omega, by omega, fun j hj => by
        constructor
        · rintro (h | rfl)
          · have := (h3 j hj).1 h; omega
          · omega
        · intro h
          by_cases e : j = m
          · exact .inr e
          · exact .inl ((h3 j hj).2 (by omega)), h⟩
      split
      · rename_i hw
        rw [if_pos hw] at h4
        exact h4.imp (Oper.wp_mono next) id
      · rename_i hw
        rw [if_neg hw] at h4
        exact next _ _ h4
  · intro D a' W hJ hall
    obtain ⟨m, h1, h2, h3, h4⟩ := full D a' W hJ (fun j hj => hall j (by omega))
    have hmn : m = ops.size := by
      by_cases e : m < ops.size
      · have := (h3 m e).1 (hall m e); omega
      · omega
    subst hmn
    rw [List.drop_eq_nil_of_le (by simp)] at h4
    exact h4

theorem tflow_allocS {S : World → Prop} {fin : Act → World → Prop} {o : Oper} {rest : List Oper} {A : Act} {W : World} {ob : Obj} {v : Value} (hw : Region.wanted o (yielded ops A.tmps) = true) (h : (execOp A.eval o).run P W = .ok (.value v) (W.alloc ob)) (hS : S (W.alloc ob))
    (hr : ∀ W', W' = W.alloc ob → S W' → TFlow P ops S fin rest (A.put o.dst v) W') : TFlow P ops S fin (o :: rest) A W :=
  tflow_new hw h hS (hr _ rfl hS)
end
end Go.Proofs.YtlfehdikgbgloaaGreat
namespace Go.Proofs.YtlfehdikgbgloaaGreat
open Go.RowKit
set_option maxRecDepth 100000 in
set_option maxHeartbeats 4000000 in
theorem maInbox_any (ma mb mc md ve vi vn vs : Value) (m : Mac) (n : Net) (st : List Int) (v : Nat) (w : World) (hMa : MacIn w ma mb mc md m) (h : NetIn w ve vi vn n) (hs : IntS w vs st) (hAs : Asked m n) (hSt : StOk m n st) (hv : v < n.ends.length) :
    Calls Tryz.prog 209 #[.agg #[.int .i64 m.degree, .int .i64 m.states, .int .i64 m.messages, ma, mb, mc, md], .agg #[ve, vi, vn], vs, .int .i64 v] w fun e w' => ∃ u, e = .returned u ∧ Own w' w.heap.size u (inboxB m n st v) ∧ Below w.heap.size w w' := by
  have hn40 := (netOk_len hAs.net).2
  have HAs := Lib.hid hAs
  have HSt := Lib.hid hSt
  clear hAs hSt
  obtain ⟨w0, hw0⟩ : ∃ w0, w0 = ((w).alloc (.cells #[.int .i64 m.degree, .int .i64 m.states, .int .i64 m.messages, ma, mb, mc, md] 62)).alloc (.cells #[ve, vi, vn] 31) := ⟨_, rfl⟩
  have hb0 : Below w.heap.size w w0 := by rw [hw0]; exact (((Below.refl _ _).alloc (by simp <;> omega) _).alloc (by simp <;> omega) _)
  have H := Lib.hid (h.keep hb0)
  obtain ⟨h1, h2, h3⟩ := h.keep hb0
  obtain ⟨A, c, rfl, hlc, hm, hA⟩ := h1
  obtain ⟨A2, c2, rfl, _, hm2, _⟩ := h2
  obtain ⟨A3, c3, rfl, _, hm3, _⟩ := h3
  unfold maxLen at hm hm2 hm3
  have hkM := hMa.keep hb0
  have HM := Lib.hid hkM
  obtain ⟨M0, mz0, rfl, hlM0, hmM0, hMe0⟩ := id hkM.1
  unfold maxLen at hmM0
  have HMe0 := Lib.hid hMe0
  clear hMe0
  obtain ⟨M1, mz1, rfl, hlM1, hmM1, hMe1⟩ := id hkM.2.1
  unfold maxLen at hmM1
  have HMe1 := Lib.hid hMe1
  clear hMe1
  obtain ⟨M2, mz2, rfl, hlM2, hmM2, hMe2⟩ := id hkM.2.2.1
  unfold maxLen at hmM2
  have HMe2 := Lib.hid hMe2
  clear hMe2
  obtain ⟨M3, mz3, rfl, hlM3, hmM3, hMe3⟩ := id hkM.2.2.2
  unfold maxLen at hmM3
  have HMe3 := Lib.hid hMe3
  clear hMe3
  clear hkM hMa
  have p00 : ∀ W, Since w0 W → W.cell? ⟨w.heap.size, 0, none⟩ = some (.int .i64 m.degree) := have_cell (by rw [hw0]; simp)
  have p01 : ∀ W, Since w0 W → W.cell? ⟨w.heap.size, 1, none⟩ = some (.int .i64 m.states) := have_cell (by rw [hw0]; simp)
  have p02 : ∀ W, Since w0 W → W.cell? ⟨w.heap.size, 2, none⟩ = some (.int .i64 m.messages) := have_cell (by rw [hw0]; simp)
  have p03 : ∀ W, Since w0 W → W.cell? ⟨w.heap.size, 3, none⟩ = some (.slice M0 m.start.length mz0) := have_cell (by rw [hw0]; simp)
  have p04 : ∀ W, Since w0 W → W.cell? ⟨w.heap.size, 4, none⟩ = some (.slice M1 m.send.length mz1) := have_cell (by rw [hw0]; simp)
  have p05 : ∀ W, Since w0 W → W.cell? ⟨w.heap.size, 5, none⟩ = some (.slice M2 m.clauses.length mz2) := have_cell (by rw [hw0]; simp)
  have p06 : ∀ W, Since w0 W → W.cell? ⟨w.heap.size, 6, none⟩ = some (.slice M3 m.output.length mz3) := have_cell (by rw [hw0]; simp)
  have p10 : ∀ W, Since w0 W → W.cell? ⟨w.heap.size + 1, 0, none⟩ = some (.slice A n.ends.length c) := have_cell (by rw [hw0]; simp)
  have p11 : ∀ W, Since w0 W → W.cell? ⟨w.heap.size + 1, 1, none⟩ = some (.slice A2 n.ids.length c2) := have_cell (by rw [hw0]; simp)
  have p12 : ∀ W, Since w0 W → W.cell? ⟨w.heap.size + 1, 2, none⟩ = some (.slice A3 n.inputs.length c3) := have_cell (by rw [hw0]; simp)
  have Hb0 := Lib.hid hb0
  have Hw0 := Lib.hid hw0
  have HA := Lib.hid hA
  clear hA h
  clear hb0 hw0
  have HV := Lib.hid (hs.keep Hb0.out)
  obtain ⟨VAS, cS, rfl, hSl, hSm, -⟩ := hs
  unfold maxLen at hSm
  have hs0 : Since w0 w0 := since_refl _
  obtain ⟨es, hes⟩ := getx n.ends v hv
  obtain ⟨b, offr, cr, ur, hA1, hkr, hc1, hrow⟩ := row_at H.out.es hes
  cases hA1
  obtain ⟨A1, z1, rfl, hz1, hz2, hA1⟩ := hrow
  have HA1 := Lib.hid hA1
  have q1 := have_cell hc1
  have Hes := Lib.hid hes
  have Hlen := Lib.hid (show (inboxB m n st v).length = es.length by rw [inbox_len]; unfold degA; rw [getD_of hes])
  have He6 := Lib.hid (show (es.length : Int) ≤ 6 from by have := HAs.out.ndeg es (List.mem_of_getElem? hes); have := HAs.out.deg; omega)
  unfold maxLen at hz2
  clear hc1 hA1 hes
  go_enter Tryz.func209, Tryz.ntmps209
  go_upto_region 1 with (fail)
  rw [← Hw0.out]
  go_wp2
  clear q1
  go_loopw [9, 18] (fun u i wr => ∃ k : Nat, k ≤ es.length ∧ i = .int .i64 k ∧ Own wr w0.heap.size u ((inboxB m n st v).take k) ∧ Since w0 wr) (fun _ i _ => es.length - (intOf i).toNat)
  case atStart => exact ⟨0, Nat.zero_le _, rfl, own_nil _ _, hs0⟩
  case round =>
    obtain ⟨k, hk, rfl, ho, hsr⟩ := hrel
    have Ho := Lib.hid ho
    clear ho hs0
    by_cases hlt : k < es.length
    · obtain ⟨e, he⟩ := getx es k hlt
      obtain ⟨s, l, he1, hss, hs1, hl, he2, hlt2, hib⟩ := inbox_cell HAs.out HSt.out Hes.out he
      obtain ⟨x1, x2⟩ := e
      simp only at he1 hss hl he2 hlt2 hib
      obtain ⟨a1, rfl⟩ := Int.eq_ofNat_of_zero_le he1
      obtain ⟨a2, rfl⟩ := Int.eq_ofNat_of_zero_le he2
      obtain ⟨sN, rfl⟩ := Int.eq_ofNat_of_zero_le hs1
      rw [Int.toNat_natCast] at hss hl hlt2 hib
      obtain ⟨y, hy⟩ := getx l a2 hlt2
      rw [getD_of hy] at hib
      obtain ⟨b1, off1, rfl, hd1, hd2⟩ := HA1.out k _ he
      obtain ⟨b3, off3, hA3, hc3⟩ := ints_at HV.out hss
      obtain ⟨b4, off4, b5, off5, z5, hA4, hc4, hz5, hz6, hc5⟩ := tab_at HM.out.2.1 hl hy
      subst hA3 hA4
      have q1 := have_cell hd1
      have q2 := have_cell hd2
      have q3 := have_cell hc3
      have q4 := have_cell hc4
      have q5 := have_cell hc5
      have hsl := lt_of_get hl
      have hil2 := lt_of_get hss
      have Hib := Lib.hid hib
      have Hln : Hid (((inboxB m n st v).take k).length + 1 ≤ 17592186044416) := by show _ ≤ _; rw [List.length_take]; have := He6.out; have := Hlen.out; omega
      obtain ⟨LL, hLL⟩ : ∃ LL, LL = (inboxB m n st v).take k := ⟨_, rfl⟩
      rw [← hLL] at Ho Hln
      have HLL := Lib.hid hLL
      clear hss hl he1 he2 hs1 hib hy hd1 hd2 hc3 hc4 hc5 hLL he
      go_upto_region 5 with (fail)
      obtain ⟨wc, hwc⟩ : ∃ wc, wc = wr.alloc (.cells #[.int .i64 (a1 : Int), .int .i64 (a2 : Int)] 96) := ⟨_, rfl⟩
      rw [← hwc]
      have hwrc : Since wr wc := by rw [hwc]; exact since_alloc _ (since_refl _)
      have k0 : wc.cell? ⟨wr.heap.size, 0, none⟩ = some (.int .i64 (a1 : Int)) := by rw [hwc]; simp
      have k1 : wc.cell? ⟨wr.heap.size, 1, none⟩ = some (.int .i64 (a2 : Int)) := by rw [hwc]; simp
      obtain ⟨eb, heb⟩ : ∃ eb, eb = wr.heap.size := ⟨_, rfl⟩
      rw [← heb] at k0 k1 ⊢
      have hS0 : Since w0 wc ∧ wc.cell? ⟨eb, 0, none⟩ = some (.int .i64 (a1 : Int)) ∧ wc.cell? ⟨eb, 1, none⟩ = some (.int .i64 (a2 : Int)) := ⟨hsr.after hwrc, k0, k1⟩
      have Hoc : Hid (Own wc w0.heap.size u9 LL) := Own.since Ho.out hwrc
      have Heb : Hid (u9.ownBlock ≠ some eb) := fun e => by have := (World.ownsRow.lt Ho.out eb e).2; omega
      clear hwc hwrc k0 k1 heb hsr
      refine wp_region_chainS (fun W => Since w0 W ∧ W.cell? ⟨eb, 0, none⟩ = some (.int .i64 (a1 : Int)) ∧ W.cell? ⟨eb, 1, none⟩ = some (.int .i64 (a2 : Int))) 16 [false, false, false, false, false, false, false, false, false, false, false, false, false, false, true, true] (by kernel_rfl) (by kernel_rfl) (show Since w0 (World.drew wc) ∧ (World.drew wc).cell? ⟨eb, 0, none⟩ = some (.int .i64 (a1 : Int)) ∧ (World.drew wc).cell? ⟨eb, 1, none⟩ = some (.int .i64 (a2 : Int)) from ⟨since_drew hS0.1, hS0.2.1, hS0.2.2⟩) ?_
      simp only [selF, selT, List.take_succ_cons, List.take_zero, List.drop_succ_cons, List.drop_zero]
      refine pflowS_val (v := ?_) rfl ?_ ?_; rotate_left; (intro W hW; (obtain ⟨hW, k0, k1⟩ := hW); go_simp; with_reducible rfl)
      simp only [Act.put, List.setIfInBounds_toArray, List.set_cons_succ, List.set_cons_zero]
      refine pflowS_val (v := ?_) rfl ?_ ?_; rotate_left; (intro W hW; (obtain ⟨hW, k0, k1⟩ := hW); go_simp; with_reducible rfl)
      simp only [Act.put, List.setIfInBounds_toArray, List.set_cons_succ, List.set_cons_zero]
      refine pflowS_val (v := ?_) rfl ?_ ?_; rotate_left; (intro W hW; (obtain ⟨hW, k0, k1⟩ := hW); go_simp; with_reducible rfl)
      simp only [Act.put, List.setIfInBounds_toArray, List.set_cons_succ, List.set_cons_zero]
      refine pflowS_val (v := ?_) rfl ?_ ?_; rotate_left; (intro W hW; (obtain ⟨hW, k0, k1⟩ := hW); go_simp; with_reducible rfl)
      simp only [Act.put, List.setIfInBounds_toArray, List.set_cons_succ, List.set_cons_zero]
      refine pflowS_val (v := ?_) rfl ?_ ?_; rotate_left; (intro W hW; (obtain ⟨hW, k0, k1⟩ := hW); go_simp; with_reducible rfl)
      simp only [Act.put, List.setIfInBounds_toArray, List.set_cons_succ, List.set_cons_zero]
      refine pflowS_val (v := ?_) rfl ?_ ?_; rotate_left; (intro W hW; (obtain ⟨hW, k0, k1⟩ := hW); go_simp; with_reducible rfl)
      simp only [Act.put, List.setIfInBounds_toArray, List.set_cons_succ, List.set_cons_zero]
      refine pflowS_val (v := ?_) rfl ?_ ?_; rotate_left; (intro W hW; (obtain ⟨hW, k0, k1⟩ := hW); go_simp; with_reducible rfl)
      simp only [Act.put, List.setIfInBounds_toArray, List.set_cons_succ, List.set_cons_zero]
      refine pflowS_val (v := ?_) rfl ?_ ?_; rotate_left; (intro W hW; (obtain ⟨hW, k0, k1⟩ := hW); go_simp; with_reducible rfl)
      simp only [Act.put, List.setIfInBounds_toArray, List.set_cons_succ, List.set_cons_zero]
      refine pflowS_val (v := ?_) rfl ?_ ?_; rotate_left; (intro W hW; (obtain ⟨hW, k0, k1⟩ := hW); go_simp; with_reducible rfl)
      simp only [Act.put, List.setIfInBounds_toArray, List.set_cons_succ, List.set_cons_zero]
      refine pflowS_val (v := ?_) rfl ?_ ?_; rotate_left; (intro W hW; (obtain ⟨hW, k0, k1⟩ := hW); go_simp; with_reducible rfl)
      simp only [Act.put, List.setIfInBounds_toArray, List.set_cons_succ, List.set_cons_zero]
      refine pflowS_val (v := ?_) rfl ?_ ?_; rotate_left; (intro W hW; (obtain ⟨hW, k0, k1⟩ := hW); go_simp; with_reducible rfl)
      simp only [Act.put, List.setIfInBounds_toArray, List.set_cons_succ, List.set_cons_zero]
      refine pflowS_val (v := ?_) rfl ?_ ?_; rotate_left; (intro W hW; (obtain ⟨hW, k0, k1⟩ := hW); go_simp; with_reducible rfl)
      simp only [Act.put, List.setIfInBounds_toArray, List.set_cons_succ, List.set_cons_zero]
      refine pflowS_val (v := ?_) rfl ?_ ?_; rotate_left; (intro W hW; (obtain ⟨hW, k0, k1⟩ := hW); go_simp; with_reducible rfl)
      simp only [Act.put, List.setIfInBounds_toArray, List.set_cons_succ, List.set_cons_zero]
      refine pflowS_val (v := ?_) rfl ?_ ?_; rotate_left; (intro W hW; (obtain ⟨hW, k0, k1⟩ := hW); go_simp; with_reducible rfl)
      simp only [Act.put, List.setIfInBounds_toArray, List.set_cons_succ, List.set_cons_zero]
      obtain ⟨W, hWd⟩ : ∃ W, W = World.drew wc := ⟨_, rfl⟩
      rw [← hWd]
      have hW := (show Since w0 (World.drew wc) ∧ (World.drew wc).cell? ⟨eb, 0, none⟩ = some (.int .i64 (a1 : Int)) ∧ (World.drew wc).cell? ⟨eb, 1, none⟩ = some (.int .i64 (a2 : Int)) from ⟨since_drew hS0.1, hS0.2.1, hS0.2.2⟩)
      rw [← hWd] at hW
      have HWd := Lib.hid hWd
      clear hWd
      refine tflow_allocS (v := ?_) (ob := ?_) rfl ?_ ?_ ?_; rotate_left 2
      (go_simp; first | with_reducible rfl | (refine ⟨?_, ?_⟩ <;> with_reducible rfl))
      exact ⟨since_alloc _ hW.1, bc (below_alloc _ _) hW.2.1, bc (below_alloc _ _) hW.2.2⟩
      intro w8 hw8d hw8s
      replace hW := hw8s
      clear hw8s
      have Ho8 : Hid (Own w8 w0.heap.size u9 LL) := by show Own _ _ _ _; rw [hw8d, HWd.out]; exact Own.since Hoc.out (since_alloc _ (since_drew (since_refl _)))
      have Hc8 : Hid (w8.cell? ⟨wc.heap.size, 0, none⟩ = some (.int .i64 y)) := by show _ = _; rw [hw8d, HWd.out]; exact cell_new (World.drew wc) _ _
      rw [show W.heap.size = wc.heap.size from by rw [HWd.out]; rfl]
      clear hw8d HWd
      (try simp only [Act.put, List.setIfInBounds_toArray, List.set_cons_succ, List.set_cons_zero])
      refine tflow_of_wp (fun Q' HQ => ?_)
      (refine app_int (base := w0.heap.size) rfl _ _ rfl rfl Ho8.out wc.heap.size y rfl Hc8.out Hln.out hW.1.below.size ?_); intro g9 cc9 w9 ho9 hg9 hg9' hg9''; have hs9 : Since w0 w9 := (Below.grown hW.1 hg9 hW.1.below.size (fun q hq => (World.ownsRow.lt Ho8.out q hq).1)); have hon9 := Only.of_grown hg9; have hen : (⟨eb, 0, none⟩ : Addr).block ∉ u9.ownBlock.toList := (fun hq => Heb.out (by simpa using hq)); refine HQ _ _ ⟨hs9, hon9.cell hen hW.2.1, hon9.cell (p := ⟨eb, 1, none⟩) hen hW.2.2⟩ ?_; have Ho9 := Lib.hid ho9; have Hs9 := Lib.hid hs9; clear ho9 hs9 hg9 hg9' hg9'' hon9 hen hW
      (try simp only [Act.put, List.setIfInBounds_toArray, List.set_cons_succ, List.set_cons_zero])
      simp only [TFlow]
      clear q1 q2 q3 q4 q5 hS0
      go_wp2
      go_roundw
      case rel => exact ⟨k + 1, by omega, by go_num, by rw [take_snoc Hib.out, ← HLL.out]; exact Ho9.out, Hs9.out⟩
      case measure => simp [intOf]; omega
    · obtain rfl : k = es.length := by omega
      have HS := Lib.hid hsr
      clear hsr
      go_wp2
      go_ret
      refine ⟨_, rfl, ?_, Since.after Hb0.out HS.out⟩
      have h9 := Ho.out
      rw [List.take_of_length_le (by rw [Hlen.out]; exact Nat.le_refl _)] at h9
      exact Own.mono h9 Hb0.out.size
end Go.Proofs.YtlfehdikgbgloaaGreat
