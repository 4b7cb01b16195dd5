/- Parts of the proof: walks of functions and plain laws. -/
import Derived.Test.YtomnaabadohecaaGreatP7
import Derived.Test.YtomnaabadohecaaGreatP9
import Derived.Test.YtomnaabadohecaaGreatP8
import Derived.Test.YtomnaabadohecaaGreatP0
import Derived.Test.YtomnaabadohecaaGreatP5
import Derived.Test.YtomnaabadohecaaGreatP3
import Derived.Test.YtomnaabadohecaaGreatP4
import Derived.WalkSpells
import Derived.Test.YtomnaabadohecaaGreatP1
namespace Go.Proofs.YtomnaabadohecaaGreat
open Go Go.RowKit
/-! an operation of a chain that makes a block -/
theorem tflow_alloc {P : Program} {ops : Array Oper} {w0 : World} {fin : Act → World → Prop} {o : Oper} {rest : List Oper} {A : Act} {W : World} {ob : Obj} {v : Value} (hw : Region.wanted o (yielded ops A.tmps) = true) (h : (execOp A.eval o).run P W = .ok (.value v) (W.alloc ob)) (hS : Since w0 W)
    (hr : ∀ W', W' = W.alloc ob → Since w0 W' → TFlow P ops (Since w0) fin rest (A.put o.dst v) W') : TFlow P ops (Since w0) fin (o :: rest) A W :=
  tflow_new hw h (since_alloc _ hS) (hr _ rfl (since_alloc _ hS))
end Go.Proofs.YtomnaabadohecaaGreat
namespace Go.Proofs.YtomnaabadohecaaGreat
open Go.RowKit
end Go.Proofs.YtomnaabadohecaaGreat
namespace Go.Proofs.YtomnaabadohecaaGreat
/-! all lists of labels, in order: the digits of a number, and counting up -/
end Go.Proofs.YtomnaabadohecaaGreat
namespace Go.Proofs.YtomnaabadohecaaGreat
open Go.RowKit
theorem Only.since {S : List Nat} {w0 W W' : World} (h : Since w0 W) (ho : Only S W W') (hs : ∀ k ∈ S, w0.heap.size ≤ k) : Since w0 W' := Below.trans h (ho.below _ h.below.size hs)
end Go.Proofs.YtomnaabadohecaaGreat
namespace Go.Proofs.YtomnaabadohecaaGreat
open Go.RowKit
theorem ints_at {w : World} {A : Option Addr} {c : Nat} {xs : List Int} {k : Nat} {x : Int} (h : IntS w (.slice A xs.length c) xs) (hx : xs[k]? = some x) : ∃ b off, A = some ⟨b, off, none⟩ ∧ w.cell? ⟨b, off + k, none⟩ = some (.int .i64 x) := by
  obtain ⟨A', c', e, _, _, hA⟩ := h
  cases e
  exact hA k x hx
theorem cell_new (W : World) (x : Value) (t : TypeId) : (W.alloc (.cells #[x] t)).cell? ⟨W.heap.size, 0, none⟩ = some x := by simp
/-- the cells behind [i][j] of a table -/
theorem tab_at {w : World} {A : Option Addr} {c : Nat} {xss : List (List Int)} {k j : Nat} {xs : List Int} {x : Int} (h : IntSS w (.slice A xss.length c) xss) (hk : xss[k]? = some xs) (hj : xs[j]? = some x) :
    ∃ b off b1 off1 z, A = some ⟨b, off, none⟩ ∧ w.cell? ⟨b, off + k, none⟩ = some (.slice (some ⟨b1, off1, none⟩) xs.length z) ∧ xs.length ≤ z ∧ z ≤ 9223372036854775807 ∧ w.cell? ⟨b1, off1 + j, none⟩ = some (.int .i64 x) := by
  obtain ⟨A', c', e, _, _, hA⟩ := h
  cases e
  obtain ⟨b, off, u, hA', h1, hr⟩ := hA k xs hk
  obtain ⟨A1, z, rfl, h2, h3, hA1⟩ := hr
  obtain ⟨b1, off1, rfl, h4⟩ := hA1 j x hj
  unfold maxLen at h3
  exact ⟨b, off, b1, off1, z, hA', h1, h2, by omega, h4⟩
set_option maxRecDepth 100000 in
set_option maxHeartbeats 4000000 in
theorem maStart_any (ma mb mc md ve vi vn : Value) (m : Mac) (n : Net) (w : World) (hMa : MacIn w ma mb mc md m) (h : NetIn w ve vi vn n) (hAs : Asked m n) :
    Calls Tryz.prog 127 #[.agg #[.int .i64 m.degree, .int .i64 m.states, .int .i64 m.messages, ma, mb, mc, md], .agg #[ve, vi, vn]] w fun e w' => ∃ u, e = .returned u ∧ Own w' w.heap.size u (startB m n) ∧ Below w.heap.size w w' := by
  have hn40 := (netOk_len hAs.net).2
  have HAs := Lib.hid hAs
  clear hAs
  obtain ⟨w0, hw0⟩ : ∃ w0, w0 = ((w).alloc (.cells #[.int .i64 m.degree, .int .i64 m.states, .int .i64 m.messages, ma, mb, mc, md] 39)).alloc (.cells #[ve, vi, vn] 43) := ⟨_, rfl⟩
  have hb0 : Below w.heap.size w w0 := by rw [hw0]; exact (((Below.refl _ _).alloc (by simp <;> omega) _).alloc (by simp <;> omega) _)
  have H := Lib.hid (h.keep hb0)
  obtain ⟨h1, h2, h3⟩ := h.keep hb0
  obtain ⟨A, c, rfl, hlc, hm, hA⟩ := h1
  obtain ⟨A2, c2, rfl, _, hm2, _⟩ := h2
  obtain ⟨A3, c3, rfl, _, hm3, _⟩ := h3
  unfold maxLen at hm hm2 hm3
  have hkM := hMa.keep hb0
  have HM := Lib.hid hkM
  obtain ⟨M0, mz0, rfl, hlM0, hmM0, hMe0⟩ := id hkM.1
  unfold maxLen at hmM0
  have HMe0 := Lib.hid hMe0
  clear hMe0
  obtain ⟨M1, mz1, rfl, hlM1, hmM1, hMe1⟩ := id hkM.2.1
  unfold maxLen at hmM1
  have HMe1 := Lib.hid hMe1
  clear hMe1
  obtain ⟨M2, mz2, rfl, hlM2, hmM2, hMe2⟩ := id hkM.2.2.1
  unfold maxLen at hmM2
  have HMe2 := Lib.hid hMe2
  clear hMe2
  obtain ⟨M3, mz3, rfl, hlM3, hmM3, hMe3⟩ := id hkM.2.2.2
  unfold maxLen at hmM3
  have HMe3 := Lib.hid hMe3
  clear hMe3
  clear hkM hMa
  have p00 : ∀ W, Since w0 W → W.cell? ⟨w.heap.size, 0, none⟩ = some (.int .i64 m.degree) := have_cell (by rw [hw0]; simp)
  have p01 : ∀ W, Since w0 W → W.cell? ⟨w.heap.size, 1, none⟩ = some (.int .i64 m.states) := have_cell (by rw [hw0]; simp)
  have p02 : ∀ W, Since w0 W → W.cell? ⟨w.heap.size, 2, none⟩ = some (.int .i64 m.messages) := have_cell (by rw [hw0]; simp)
  have p03 : ∀ W, Since w0 W → W.cell? ⟨w.heap.size, 3, none⟩ = some (.slice M0 m.start.length mz0) := have_cell (by rw [hw0]; simp)
  have p04 : ∀ W, Since w0 W → W.cell? ⟨w.heap.size, 4, none⟩ = some (.slice M1 m.send.length mz1) := have_cell (by rw [hw0]; simp)
  have p05 : ∀ W, Since w0 W → W.cell? ⟨w.heap.size, 5, none⟩ = some (.slice M2 m.clauses.length mz2) := have_cell (by rw [hw0]; simp)
  have p06 : ∀ W, Since w0 W → W.cell? ⟨w.heap.size, 6, none⟩ = some (.slice M3 m.output.length mz3) := have_cell (by rw [hw0]; simp)
  have p10 : ∀ W, Since w0 W → W.cell? ⟨w.heap.size + 1, 0, none⟩ = some (.slice A n.ends.length c) := have_cell (by rw [hw0]; simp)
  have p11 : ∀ W, Since w0 W → W.cell? ⟨w.heap.size + 1, 1, none⟩ = some (.slice A2 n.ids.length c2) := have_cell (by rw [hw0]; simp)
  have p12 : ∀ W, Since w0 W → W.cell? ⟨w.heap.size + 1, 2, none⟩ = some (.slice A3 n.inputs.length c3) := have_cell (by rw [hw0]; simp)
  have Hb0 := Lib.hid hb0
  have Hw0 := Lib.hid hw0
  have HA := Lib.hid hA
  clear hA h
  clear hb0 hw0
  have hs0 : Since w0 w0 := since_refl _
  go_enter Tryz.func127, Tryz.ntmps127
  go_upto_region 1 with (fail)
  rw [← Hw0.out]
  go_wp2
  go_loopw [5, 11] (fun u i wr => ∃ k : Nat, k ≤ n.ends.length ∧ i = .int .i64 k ∧ Own wr w0.heap.size u ((startB m n).take k) ∧ Since w0 wr) (fun _ i _ => n.ends.length - (intOf i).toNat)
  case atStart => exact ⟨0, Nat.zero_le _, rfl, own_nil _ _, hs0⟩
  case round =>
    obtain ⟨k, hk, rfl, ho, hsr⟩ := hrel
    have Ho := Lib.hid ho
    clear ho hs0
    by_cases hlt : k < n.ends.length
    · obtain ⟨es, hes⟩ := getx n.ends k hlt
      obtain ⟨l, i, hl, hi, hi0, hilt, hst, -, -⟩ := start_cell HAs.out hes
      obtain ⟨iN, rfl⟩ := Int.eq_ofNat_of_zero_le hi0
      rw [Int.toNat_natCast] at hilt hst
      obtain ⟨y, hy⟩ := getx l iN hilt
      rw [getD_of hy] at hst
      obtain ⟨b, offr, cr, ur, hA1, hkr, hc1, hrow⟩ := row_at H.out.es hes
      cases hA1
      obtain ⟨A1, z1, rfl, hz1, hz2, _⟩ := hrow
      obtain ⟨b3, off3, hA3, hc3⟩ := ints_at H.out.2.2 hi
      obtain ⟨b4, off4, b5, off5, z5, hA4, hc4, hz5, hz6, hc5⟩ := tab_at HM.out.1 hl hy
      subst hA3 hA4
      have q1 := have_cell hc1
      have q3 := have_cell hc3
      have q4 := have_cell hc4
      have q5 := have_cell hc5
      have hsl := lt_of_get hl
      have hil2 := lt_of_get hi
      have Hst := Lib.hid hst
      have Hlen : Hid (((startB m n).take k).length + 1 ≤ 17592186044416) := by show _ ≤ _; rw [List.length_take]; omega
      obtain ⟨LL, hLL⟩ : ∃ LL, LL = (startB m n).take k := ⟨_, rfl⟩
      rw [← hLL] at Ho Hlen
      have HLL := Lib.hid hLL
      unfold maxLen at hz2
      clear hes hl hi hi0 hst hy hc1 hc3 hc4 hc5 hLL
      go_upto_region 5 with (fail)
      refine wp_region_chain0 (w0 := w0) 16 [false, false, false, false, false, false, false, false, false, false, false, false, false, false, true, true] (by kernel_rfl) (by kernel_rfl) (hsr) ?_
      simp only [selF, selT, List.take_succ_cons, List.take_zero, List.drop_succ_cons, List.drop_zero]
      refine pflow_val (v := ?_) rfl ?_ ?_; rotate_left; (intro W hW; go_simp; with_reducible rfl)
      simp only [Act.put, List.setIfInBounds_toArray, List.set_cons_succ, List.set_cons_zero]
      refine pflow_val (v := ?_) rfl ?_ ?_; rotate_left; (intro W hW; go_simp; with_reducible rfl)
      simp only [Act.put, List.setIfInBounds_toArray, List.set_cons_succ, List.set_cons_zero]
      refine pflow_val (v := ?_) rfl ?_ ?_; rotate_left; (intro W hW; go_simp; with_reducible rfl)
      simp only [Act.put, List.setIfInBounds_toArray, List.set_cons_succ, List.set_cons_zero]
      refine pflow_val (v := ?_) rfl ?_ ?_; rotate_left; (intro W hW; go_simp; with_reducible rfl)
      simp only [Act.put, List.setIfInBounds_toArray, List.set_cons_succ, List.set_cons_zero]
      refine pflow_val (v := ?_) rfl ?_ ?_; rotate_left; (intro W hW; go_simp; with_reducible rfl)
      simp only [Act.put, List.setIfInBounds_toArray, List.set_cons_succ, List.set_cons_zero]
      refine pflow_val (v := ?_) rfl ?_ ?_; rotate_left; (intro W hW; go_simp; with_reducible rfl)
      simp only [Act.put, List.setIfInBounds_toArray, List.set_cons_succ, List.set_cons_zero]
      refine pflow_val (v := ?_) rfl ?_ ?_; rotate_left; (intro W hW; go_simp; with_reducible rfl)
      simp only [Act.put, List.setIfInBounds_toArray, List.set_cons_succ, List.set_cons_zero]
      refine pflow_val (v := ?_) rfl ?_ ?_; rotate_left; (intro W hW; go_simp; with_reducible rfl)
      simp only [Act.put, List.setIfInBounds_toArray, List.set_cons_succ, List.set_cons_zero]
      refine pflow_val (v := ?_) rfl ?_ ?_; rotate_left; (intro W hW; go_simp; with_reducible rfl)
      simp only [Act.put, List.setIfInBounds_toArray, List.set_cons_succ, List.set_cons_zero]
      refine pflow_val (v := ?_) rfl ?_ ?_; rotate_left; (intro W hW; go_simp; with_reducible rfl)
      simp only [Act.put, List.setIfInBounds_toArray, List.set_cons_succ, List.set_cons_zero]
      refine pflow_val (v := ?_) rfl ?_ ?_; rotate_left; (intro W hW; go_simp; with_reducible rfl)
      simp only [Act.put, List.setIfInBounds_toArray, List.set_cons_succ, List.set_cons_zero]
      refine pflow_val (v := ?_) rfl ?_ ?_; rotate_left; (intro W hW; go_simp; with_reducible rfl)
      simp only [Act.put, List.setIfInBounds_toArray, List.set_cons_succ, List.set_cons_zero]
      refine pflow_val (v := ?_) rfl ?_ ?_; rotate_left; (intro W hW; go_simp; with_reducible rfl)
      simp only [Act.put, List.setIfInBounds_toArray, List.set_cons_succ, List.set_cons_zero]
      refine pflow_val (v := ?_) rfl ?_ ?_; rotate_left; (intro W hW; go_simp; with_reducible rfl)
      simp only [Act.put, List.setIfInBounds_toArray, List.set_cons_succ, List.set_cons_zero]
      obtain ⟨W, hWd⟩ : ∃ W, W = World.drew wr := ⟨_, rfl⟩
      rw [← hWd]
      have hW : Since w0 W := by rw [hWd]; exact since_drew (hsr)
      (try have HWd := Lib.hid hWd)
      (try clear hWd)
      refine tflow_alloc (v := ?_) (ob := ?_) rfl ?_ hW ?_; rotate_left 2
      (go_simp; first | with_reducible rfl | (refine ⟨?_, ?_⟩ <;> with_reducible rfl))
      intro w8 hw8d hw8s
      replace hW := hw8s
      clear hw8s
      have Ho8 : Hid (Own w8 w0.heap.size u5 LL) := by show Own _ _ _ _; rw [hw8d, HWd.out]; exact Own.since Ho.out (since_alloc _ (since_drew (since_refl _)))
      have Hc8 : Hid (w8.cell? ⟨wr.heap.size, 0, none⟩ = some (.int .i64 y)) := by show _ = _; rw [hw8d, HWd.out]; exact cell_new (World.drew wr) _ _
      rw [show W.heap.size = wr.heap.size from by rw [HWd.out]; rfl]
      clear hw8d HWd
      (try simp only [Act.put, List.setIfInBounds_toArray, List.set_cons_succ, List.set_cons_zero])
      refine tflow_of_wp (fun Q' HQ => ?_)
      (refine app_int_s (w0 := w0) rfl _ _ rfl rfl Ho8.out wr.heap.size y rfl Hc8.out Hlen.out hW ?_); intro g9 cc9 w9 ho9 hs9; refine HQ _ _ hs9 ?_; have Ho9 := Lib.hid ho9; replace hW := hs9; clear ho9 hs9
      (try simp only [Act.put, List.setIfInBounds_toArray, List.set_cons_succ, List.set_cons_zero])
      simp only [TFlow]
      have HW9 := Lib.hid hW
      clear hW hsr q1 q3 q4 q5
      go_wp2
      go_roundw
      case rel => exact ⟨k + 1, by omega, by go_num, by rw [start_take Hst.out, ← HLL.out]; exact Ho9.out, HW9.out⟩
      case measure => simp [intOf]; omega
    · obtain rfl : k = n.ends.length := by omega
      have HS := Lib.hid hsr
      clear hsr
      go_wp2
      go_ret
      refine ⟨_, rfl, ?_, Since.after Hb0.out HS.out⟩
      have h9 := Ho.out
      rw [List.take_of_length_le (by rw [startB_len]; exact Nat.le_refl _)] at h9
      exact Own.mono h9 Hb0.out.size
set_option maxRecDepth 100000 in
set_option maxHeartbeats 4000000 in
theorem startStates_any (ma mb mc md ve vi vn : Value) (m : Mac) (n : Net) (w : World) (hMa : MacIn w ma mb mc md m) (h : NetIn w ve vi vn n) (hAs : Asked m n) :
    Calls Tryz.prog 133 #[.agg #[.int .i64 m.degree, .int .i64 m.states, .int .i64 m.messages, ma, mb, mc, md], .agg #[ve, vi, vn]] w fun e w' => ∃ u, e = .returned u ∧ Own w' w.heap.size u (startB m n) ∧ Below w.heap.size w w' := by
  have hn40 := (netOk_len hAs.net).2
  have HAs := Lib.hid hAs
  clear hAs
  obtain ⟨w0, hw0⟩ : ∃ w0, w0 = ((w).alloc (.cells #[.int .i64 m.degree, .int .i64 m.states, .int .i64 m.messages, ma, mb, mc, md] 39)).alloc (.cells #[ve, vi, vn] 43) := ⟨_, rfl⟩
  have hb0 : Below w.heap.size w w0 := by rw [hw0]; exact (((Below.refl _ _).alloc (by simp <;> omega) _).alloc (by simp <;> omega) _)
  have H := Lib.hid (h.keep hb0)
  obtain ⟨h1, h2, h3⟩ := h.keep hb0
  obtain ⟨A, c, rfl, hlc, hm, hA⟩ := h1
  obtain ⟨A2, c2, rfl, _, hm2, _⟩ := h2
  obtain ⟨A3, c3, rfl, _, hm3, _⟩ := h3
  unfold maxLen at hm hm2 hm3
  have hkM := hMa.keep hb0
  have HM := Lib.hid hkM
  obtain ⟨M0, mz0, rfl, hlM0, hmM0, hMe0⟩ := id hkM.1
  unfold maxLen at hmM0
  have HMe0 := Lib.hid hMe0
  clear hMe0
  obtain ⟨M1, mz1, rfl, hlM1, hmM1, hMe1⟩ := id hkM.2.1
  unfold maxLen at hmM1
  have HMe1 := Lib.hid hMe1
  clear hMe1
  obtain ⟨M2, mz2, rfl, hlM2, hmM2, hMe2⟩ := id hkM.2.2.1
  unfold maxLen at hmM2
  have HMe2 := Lib.hid hMe2
  clear hMe2
  obtain ⟨M3, mz3, rfl, hlM3, hmM3, hMe3⟩ := id hkM.2.2.2
  unfold maxLen at hmM3
  have HMe3 := Lib.hid hMe3
  clear hMe3
  clear hkM hMa
  have p00 : ∀ W, Since w0 W → W.cell? ⟨w.heap.size, 0, none⟩ = some (.int .i64 m.degree) := have_cell (by rw [hw0]; simp)
  have p01 : ∀ W, Since w0 W → W.cell? ⟨w.heap.size, 1, none⟩ = some (.int .i64 m.states) := have_cell (by rw [hw0]; simp)
  have p02 : ∀ W, Since w0 W → W.cell? ⟨w.heap.size, 2, none⟩ = some (.int .i64 m.messages) := have_cell (by rw [hw0]; simp)
  have p03 : ∀ W, Since w0 W → W.cell? ⟨w.heap.size, 3, none⟩ = some (.slice M0 m.start.length mz0) := have_cell (by rw [hw0]; simp)
  have p04 : ∀ W, Since w0 W → W.cell? ⟨w.heap.size, 4, none⟩ = some (.slice M1 m.send.length mz1) := have_cell (by rw [hw0]; simp)
  have p05 : ∀ W, Since w0 W → W.cell? ⟨w.heap.size, 5, none⟩ = some (.slice M2 m.clauses.length mz2) := have_cell (by rw [hw0]; simp)
  have p06 : ∀ W, Since w0 W → W.cell? ⟨w.heap.size, 6, none⟩ = some (.slice M3 m.output.length mz3) := have_cell (by rw [hw0]; simp)
  have p10 : ∀ W, Since w0 W → W.cell? ⟨w.heap.size + 1, 0, none⟩ = some (.slice A n.ends.length c) := have_cell (by rw [hw0]; simp)
  have p11 : ∀ W, Since w0 W → W.cell? ⟨w.heap.size + 1, 1, none⟩ = some (.slice A2 n.ids.length c2) := have_cell (by rw [hw0]; simp)
  have p12 : ∀ W, Since w0 W → W.cell? ⟨w.heap.size + 1, 2, none⟩ = some (.slice A3 n.inputs.length c3) := have_cell (by rw [hw0]; simp)
  have Hb0 := Lib.hid hb0
  have Hw0 := Lib.hid hw0
  have HA := Lib.hid hA
  clear hA h
  clear hb0 hw0
  have hs0 : Since w0 w0 := since_refl _
  go_enter Tryz.func133, Tryz.ntmps133
  go_upto_region 1 with (fail)
  rw [← Hw0.out]
  go_wp2
  go_loopw [5, 11] (fun u i wr => ∃ k : Nat, k ≤ n.ends.length ∧ i = .int .i64 k ∧ Own wr w0.heap.size u ((startB m n).take k) ∧ Since w0 wr) (fun _ i _ => n.ends.length - (intOf i).toNat)
  case atStart => exact ⟨0, Nat.zero_le _, rfl, own_nil _ _, hs0⟩
  case round =>
    obtain ⟨k, hk, rfl, ho, hsr⟩ := hrel
    have Ho := Lib.hid ho
    clear ho hs0
    by_cases hlt : k < n.ends.length
    · obtain ⟨es, hes⟩ := getx n.ends k hlt
      obtain ⟨l, i, hl, hi, hi0, hilt, hst, -, -⟩ := start_cell HAs.out hes
      obtain ⟨iN, rfl⟩ := Int.eq_ofNat_of_zero_le hi0
      rw [Int.toNat_natCast] at hilt hst
      obtain ⟨y, hy⟩ := getx l iN hilt
      rw [getD_of hy] at hst
      obtain ⟨b, offr, cr, ur, hA1, hkr, hc1, hrow⟩ := row_at H.out.es hes
      cases hA1
      obtain ⟨A1, z1, rfl, hz1, hz2, _⟩ := hrow
      obtain ⟨b3, off3, hA3, hc3⟩ := ints_at H.out.2.2 hi
      obtain ⟨b4, off4, b5, off5, z5, hA4, hc4, hz5, hz6, hc5⟩ := tab_at HM.out.1 hl hy
      subst hA3 hA4
      have q1 := have_cell hc1
      have q3 := have_cell hc3
      have q4 := have_cell hc4
      have q5 := have_cell hc5
      have hsl := lt_of_get hl
      have hil2 := lt_of_get hi
      have Hst := Lib.hid hst
      have Hlen : Hid (((startB m n).take k).length + 1 ≤ 17592186044416) := by show _ ≤ _; rw [List.length_take]; omega
      obtain ⟨LL, hLL⟩ : ∃ LL, LL = (startB m n).take k := ⟨_, rfl⟩
      rw [← hLL] at Ho Hlen
      have HLL := Lib.hid hLL
      unfold maxLen at hz2
      clear hes hl hi hi0 hst hy hc1 hc3 hc4 hc5 hLL
      go_upto_region 5 with (fail)
      refine wp_region_chain0 (w0 := w0) 16 [false, false, false, false, false, false, false, false, false, false, false, false, false, false, true, true] (by kernel_rfl) (by kernel_rfl) (hsr) ?_
      simp only [selF, selT, List.take_succ_cons, List.take_zero, List.drop_succ_cons, List.drop_zero]
      refine pflow_val (v := ?_) rfl ?_ ?_; rotate_left; (intro W hW; go_simp; with_reducible rfl)
      simp only [Act.put, List.setIfInBounds_toArray, List.set_cons_succ, List.set_cons_zero]
      refine pflow_val (v := ?_) rfl ?_ ?_; rotate_left; (intro W hW; go_simp; with_reducible rfl)
      simp only [Act.put, List.setIfInBounds_toArray, List.set_cons_succ, List.set_cons_zero]
      refine pflow_val (v := ?_) rfl ?_ ?_; rotate_left; (intro W hW; go_simp; with_reducible rfl)
      simp only [Act.put, List.setIfInBounds_toArray, List.set_cons_succ, List.set_cons_zero]
      refine pflow_val (v := ?_) rfl ?_ ?_; rotate_left; (intro W hW; go_simp; with_reducible rfl)
      simp only [Act.put, List.setIfInBounds_toArray, List.set_cons_succ, List.set_cons_zero]
      refine pflow_val (v := ?_) rfl ?_ ?_; rotate_left; (intro W hW; go_simp; with_reducible rfl)
      simp only [Act.put, List.setIfInBounds_toArray, List.set_cons_succ, List.set_cons_zero]
      refine pflow_val (v := ?_) rfl ?_ ?_; rotate_left; (intro W hW; go_simp; with_reducible rfl)
      simp only [Act.put, List.setIfInBounds_toArray, List.set_cons_succ, List.set_cons_zero]
      refine pflow_val (v := ?_) rfl ?_ ?_; rotate_left; (intro W hW; go_simp; with_reducible rfl)
      simp only [Act.put, List.setIfInBounds_toArray, List.set_cons_succ, List.set_cons_zero]
      refine pflow_val (v := ?_) rfl ?_ ?_; rotate_left; (intro W hW; go_simp; with_reducible rfl)
      simp only [Act.put, List.setIfInBounds_toArray, List.set_cons_succ, List.set_cons_zero]
      refine pflow_val (v := ?_) rfl ?_ ?_; rotate_left; (intro W hW; go_simp; with_reducible rfl)
      simp only [Act.put, List.setIfInBounds_toArray, List.set_cons_succ, List.set_cons_zero]
      refine pflow_val (v := ?_) rfl ?_ ?_; rotate_left; (intro W hW; go_simp; with_reducible rfl)
      simp only [Act.put, List.setIfInBounds_toArray, List.set_cons_succ, List.set_cons_zero]
      refine pflow_val (v := ?_) rfl ?_ ?_; rotate_left; (intro W hW; go_simp; with_reducible rfl)
      simp only [Act.put, List.setIfInBounds_toArray, List.set_cons_succ, List.set_cons_zero]
      refine pflow_val (v := ?_) rfl ?_ ?_; rotate_left; (intro W hW; go_simp; with_reducible rfl)
      simp only [Act.put, List.setIfInBounds_toArray, List.set_cons_succ, List.set_cons_zero]
      refine pflow_val (v := ?_) rfl ?_ ?_; rotate_left; (intro W hW; go_simp; with_reducible rfl)
      simp only [Act.put, List.setIfInBounds_toArray, List.set_cons_succ, List.set_cons_zero]
      refine pflow_val (v := ?_) rfl ?_ ?_; rotate_left; (intro W hW; go_simp; with_reducible rfl)
      simp only [Act.put, List.setIfInBounds_toArray, List.set_cons_succ, List.set_cons_zero]
      obtain ⟨W, hWd⟩ : ∃ W, W = World.drew wr := ⟨_, rfl⟩
      rw [← hWd]
      have hW : Since w0 W := by rw [hWd]; exact since_drew (hsr)
      (try have HWd := Lib.hid hWd)
      (try clear hWd)
      refine tflow_alloc (v := ?_) (ob := ?_) rfl ?_ hW ?_; rotate_left 2
      (go_simp; first | with_reducible rfl | (refine ⟨?_, ?_⟩ <;> with_reducible rfl))
      intro w8 hw8d hw8s
      replace hW := hw8s
      clear hw8s
      have Ho8 : Hid (Own w8 w0.heap.size u5 LL) := by show Own _ _ _ _; rw [hw8d, HWd.out]; exact Own.since Ho.out (since_alloc _ (since_drew (since_refl _)))
      have Hc8 : Hid (w8.cell? ⟨wr.heap.size, 0, none⟩ = some (.int .i64 y)) := by show _ = _; rw [hw8d, HWd.out]; exact cell_new (World.drew wr) _ _
      rw [show W.heap.size = wr.heap.size from by rw [HWd.out]; rfl]
      clear hw8d HWd
      (try simp only [Act.put, List.setIfInBounds_toArray, List.set_cons_succ, List.set_cons_zero])
      refine tflow_of_wp (fun Q' HQ => ?_)
      (refine app_int_s (w0 := w0) rfl _ _ rfl rfl Ho8.out wr.heap.size y rfl Hc8.out Hlen.out hW ?_); intro g9 cc9 w9 ho9 hs9; refine HQ _ _ hs9 ?_; have Ho9 := Lib.hid ho9; replace hW := hs9; clear ho9 hs9
      (try simp only [Act.put, List.setIfInBounds_toArray, List.set_cons_succ, List.set_cons_zero])
      simp only [TFlow]
      have HW9 := Lib.hid hW
      clear hW hsr q1 q3 q4 q5
      go_wp2
      go_roundw
      case rel => exact ⟨k + 1, by omega, by go_num, by rw [start_take Hst.out, ← HLL.out]; exact Ho9.out, HW9.out⟩
      case measure => simp [intOf]; omega
    · obtain rfl : k = n.ends.length := by omega
      have HS := Lib.hid hsr
      clear hsr
      go_wp2
      go_ret
      refine ⟨_, rfl, ?_, Since.after Hb0.out HS.out⟩
      have h9 := Ho.out
      rw [List.take_of_length_le (by rw [startB_len]; exact Nat.le_refl _)] at h9
      exact Own.mono h9 Hb0.out.size
end Go.Proofs.YtomnaabadohecaaGreat
namespace Go.Proofs.YtomnaabadohecaaGreat
open Go.RowKit
/-! marks (written by tools/markgen.py) -/
def cntAs (x : ASt) : Nat := (x.rounds.length : Nat) + (x.before.length : Nat) + (x.now.length : Nat) + (szR x.slots : Nat) + (cntT3 x.flight : Nat)
def mkAs (k : Nat) (x : ASt) : ASt := { rounds := marks (k) x.rounds.length, before := marks (k + (x.rounds.length : Nat)) x.before.length, now := marks (k + (x.rounds.length : Nat) + (x.before.length : Nat)) x.now.length, slots := mkII (k + (x.rounds.length : Nat) + (x.before.length : Nat) + (x.now.length : Nat)) x.slots, flight := mkT3 (k + (x.rounds.length : Nat) + (x.before.length : Nat) + (x.now.length : Nat) + (szR x.slots : Nat)) x.flight }
def OwnAs (w : World) (base : Nat) (v1 v2 v3 v4 v5 : Value) (x : ASt) (S : List Nat) : Prop := ∃ S1 S2 S3 S4 S5 : List Nat, OwnI w base v1 x.rounds S1 ∧ OwnI w base v2 x.before S2 ∧ OwnI w base v3 x.now S3 ∧ OwnII w base v4 x.slots S4 ∧ OwnTTT w base v5 x.flight S5 ∧ S = S1 ++ (S2 ++ (S3 ++ (S4 ++ (S5)))) ∧ S.Nodup
theorem OwnAs.read {w : World} {base : Nat} {v1 v2 v3 v4 v5 : Value} {x : ASt} {S : List Nat} (h : OwnAs w base v1 v2 v3 v4 v5 x S) : AsIn w v1 v2 v3 v4 v5 x := by
  obtain ⟨S1, S2, S3, S4, S5, h1, h2, h3, h4, h5, _, _⟩ := h
  exact ⟨h1.read, h2.read, h3.read, h4.read, h5.read⟩
theorem OwnAs.range {w : World} {base : Nat} {v1 v2 v3 v4 v5 : Value} {x : ASt} {S : List Nat} (h : OwnAs w base v1 v2 v3 v4 v5 x S) : ∀ k ∈ S, base ≤ k ∧ k < w.heap.size := by
  obtain ⟨S1, S2, S3, S4, S5, h1, h2, h3, h4, h5, rfl, _⟩ := h
  intro k hk
  simp only [List.mem_append] at hk
  rcases hk with hk | hk | hk | hk | hk
  · exact lawI.range h1 k hk
  · exact lawI.range h2 k hk
  · exact lawI.range h3 k hk
  · exact lawII.range h4 k hk
  · exact lawTTT.range h5 k hk
theorem OwnAs.stable {w' : World} {w : World} {base : Nat} {v1 v2 v3 v4 v5 : Value} {x : ASt} {S : List Nat} (h : OwnAs w base v1 v2 v3 v4 v5 x S) (hs : ∀ k ∈ S, w'.heap[k]? = w.heap[k]?) : OwnAs w' base v1 v2 v3 v4 v5 x S := by
  obtain ⟨S1, S2, S3, S4, S5, h1, h2, h3, h4, h5, h8, h9⟩ := h
  refine ⟨S1, S2, S3, S4, S5, lawI.stable h1 fun k hk => hs k (by rw [h8]; simp [hk]), lawI.stable h2 fun k hk => hs k (by rw [h8]; simp [hk]), lawI.stable h3 fun k hk => hs k (by rw [h8]; simp [hk]), lawII.stable h4 fun k hk => hs k (by rw [h8]; simp [hk]), lawTTT.stable h5 fun k hk => hs k (by rw [h8]; simp [hk]), h8, h9⟩
theorem OwnAs.keep {w' : World} {w : World} {base : Nat} {v1 v2 v3 v4 v5 : Value} {x : ASt} {S : List Nat} (h : OwnAs w base v1 v2 v3 v4 v5 x S) (hb : Below w.heap.size w w') : OwnAs w' base v1 v2 v3 v4 v5 x S := h.stable fun k hk => hb.block k (h.range k hk).2
theorem OwnAs.mono {base' : Nat} {w : World} {base : Nat} {v1 v2 v3 v4 v5 : Value} {x : ASt} {S : List Nat} (h : OwnAs w base v1 v2 v3 v4 v5 x S) (hb : base' ≤ base) : OwnAs w base' v1 v2 v3 v4 v5 x S := by
  obtain ⟨S1, S2, S3, S4, S5, h1, h2, h3, h4, h5, h8, h9⟩ := h
  exact ⟨S1, S2, S3, S4, S5, lawI.mono h1 hb, lawI.mono h2 hb, lawI.mono h3 hb, lawII.mono h4 hb, lawTTT.mono h5 hb, h8, h9⟩
set_option maxHeartbeats 8000000 in
theorem markAsyncState_any (v1 v2 v3 v4 v5 : Value) (x : ASt) (k : Nat) (w : World) (base : Nat) (S : List Nat) (h : OwnAs w base v1 v2 v3 v4 v5 x S) (hl : k + cntAs x ≤ 4611686018427387904) :
    Calls Tryz.prog 21 #[.agg #[v1, v2, v3, v4, v5], .int .i64 k] w fun e w' => e = .returned (.int .i64 ((k + cntAs x : Nat) : Int)) ∧ OwnAs w' base v1 v2 v3 v4 v5 (mkAs k x) S ∧ Only S w w' := by
  have hr := h.range
  obtain ⟨S1, S2, S3, S4, S5, h1, h2, h3, h4, h5, h8, h9⟩ := h
  unfold cntAs at hl ⊢
  have hnd := h9
  rw [h8] at hnd
  have n1 := List.nodup_append.1 hnd
  have d1_2 : ∀ j ∈ S1, j ∉ S2 := fun j a b => n1.2.2 j a j (by simp [b]) rfl
  have d1_3 : ∀ j ∈ S1, j ∉ S3 := fun j a b => n1.2.2 j a j (by simp [b]) rfl
  have d1_4 : ∀ j ∈ S1, j ∉ S4 := fun j a b => n1.2.2 j a j (by simp [b]) rfl
  have d1_5 : ∀ j ∈ S1, j ∉ S5 := fun j a b => n1.2.2 j a j (by simp [b]) rfl
  have n2 := List.nodup_append.1 n1.2.1
  have d2_3 : ∀ j ∈ S2, j ∉ S3 := fun j a b => n2.2.2 j a j (by simp [b]) rfl
  have d2_4 : ∀ j ∈ S2, j ∉ S4 := fun j a b => n2.2.2 j a j (by simp [b]) rfl
  have d2_5 : ∀ j ∈ S2, j ∉ S5 := fun j a b => n2.2.2 j a j (by simp [b]) rfl
  have n3 := List.nodup_append.1 n2.2.1
  have d3_4 : ∀ j ∈ S3, j ∉ S4 := fun j a b => n3.2.2 j a j (by simp [b]) rfl
  have d3_5 : ∀ j ∈ S3, j ∉ S5 := fun j a b => n3.2.2 j a j (by simp [b]) rfl
  have n4 := List.nodup_append.1 n3.2.1
  have d4_5 : ∀ j ∈ S4, j ∉ S5 := fun j a b => n4.2.2 j a j (by simp [b]) rfl
  have b1 := fun j hj => (lawI.range h1 j hj).2
  have b2 := fun j hj => (lawI.range h2 j hj).2
  have b3 := fun j hj => (lawI.range h3 j hj).2
  have b4 := fun j hj => (lawII.range h4 j hj).2
  have b5 := fun j hj => (lawTTT.range h5 j hj).2
  have hb0 : Below w.heap.size w (w.alloc (.cells #[v1, v2, v3, v4, v5] 34)) := (Below.refl _ _).alloc (Nat.le_refl _) _
  have H1 := Lib.hid (lawI.keep h1 hb0)
  have B1 := Lib.hid b1
  have H2 := Lib.hid (lawI.keep h2 hb0)
  have B2 := Lib.hid b2
  have H3 := Lib.hid (lawI.keep h3 hb0)
  have B3 := Lib.hid b3
  have H4 := Lib.hid (lawII.keep h4 hb0)
  have B4 := Lib.hid b4
  have H5 := Lib.hid (lawTTT.keep h5 hb0)
  have B5 := Lib.hid b5
  obtain ⟨A1, n1, z1, rfl⟩ := lawI.one h1
  obtain ⟨A2, n2, z2, rfl⟩ := lawI.one h2
  obtain ⟨A3, n3, z3, rfl⟩ := lawI.one h3
  obtain ⟨A4, n4, z4, rfl⟩ := lawII.one h4
  obtain ⟨A5, n5, z5, rfl⟩ := lawTTT.one h5
  have D1_2 := Lib.hid d1_2
  have D1_3 := Lib.hid d1_3
  have D1_4 := Lib.hid d1_4
  have D1_5 := Lib.hid d1_5
  have D2_3 := Lib.hid d2_3
  have D2_4 := Lib.hid d2_4
  have D2_5 := Lib.hid d2_5
  have D3_4 := Lib.hid d3_4
  have D3_5 := Lib.hid d3_5
  have D4_5 := Lib.hid d4_5
  have H8 := Lib.hid h8
  have H9 := Lib.hid h9
  have Hb0 := Lib.hid hb0
  clear h8 h9 hnd hr hb0 h1 b1 h2 b2 h3 b3 h4 b4 h5 b5 d1_2 d1_3 d1_4 d1_5 d2_3 d2_4 d2_5 d3_4 d3_5 d4_5
  go_enter Tryz.func21, Tryz.ntmps21
  go_wp2_with fail
  refine (markIntS_any _ x.rounds (k) _ base H1.out.1 (by omega)).mono ?_
  rintro e w1 ⟨rfl, o, g⟩
  have t := Only.of_grown g
  rw [← H1.out.2] at t
  have o' := (show OwnI w1 base _ _ S1 from ⟨o, H1.out.2⟩)
  clear g o
  have o := o'
  clear o'
  have c1 : w1.cell? ⟨w.heap.size, 1, none⟩ = some (.slice A2 n2 z2) := t.cell (fun hh => by have := B1.out _ hh; simp at this) (by simp)
  have c2 : w1.cell? ⟨w.heap.size, 2, none⟩ = some (.slice A3 n3 z3) := t.cell (fun hh => by have := B1.out _ hh; simp at this) (by simp)
  have c3 : w1.cell? ⟨w.heap.size, 3, none⟩ = some (.slice A4 n4 z4) := t.cell (fun hh => by have := B1.out _ hh; simp at this) (by simp)
  have c4 : w1.cell? ⟨w.heap.size, 4, none⟩ = some (.slice A5 n5 z5) := t.cell (fun hh => by have := B1.out _ hh; simp at this) (by simp)
  have H1' := Lib.hid o
  clear H1 o
  have H1 := H1'
  clear H1'
  have H2' := Lib.hid (lawI.only H2.out t (fun j a b => D1_2.out j b a))
  clear H2
  have H2 := H2'
  clear H2'
  have H3' := Lib.hid (lawI.only H3.out t (fun j a b => D1_3.out j b a))
  clear H3
  have H3 := H3'
  clear H3'
  have H4' := Lib.hid (lawII.only H4.out t (fun j a b => D1_4.out j b a))
  clear H4
  have H4 := H4'
  clear H4'
  have H5' := Lib.hid (lawTTT.only H5.out t (fun j a b => D1_5.out j b a))
  clear H5
  have H5 := H5'
  clear H5'
  have T1 := Lib.hid t
  clear t
  go_wp2_with fail
  refine (markIntS_any _ x.before (k + (x.rounds.length : Nat)) _ base H2.out.1 (by omega)).mono ?_
  rintro e w2 ⟨rfl, o, g⟩
  have t := Only.of_grown g
  rw [← H2.out.2] at t
  have o' := (show OwnI w2 base _ _ S2 from ⟨o, H2.out.2⟩)
  clear g o
  have o := o'
  clear o'
  replace c2 := t.cell (fun hh => by have := B2.out _ hh; simp at this) c2
  replace c3 := t.cell (fun hh => by have := B2.out _ hh; simp at this) c3
  replace c4 := t.cell (fun hh => by have := B2.out _ hh; simp at this) c4
  clear c1
  have H2' := Lib.hid o
  clear H2 o
  have H2 := H2'
  clear H2'
  have H1' := Lib.hid (lawI.only H1.out t D1_2.out)
  clear H1
  have H1 := H1'
  clear H1'
  have H3' := Lib.hid (lawI.only H3.out t (fun j a b => D2_3.out j b a))
  clear H3
  have H3 := H3'
  clear H3'
  have H4' := Lib.hid (lawII.only H4.out t (fun j a b => D2_4.out j b a))
  clear H4
  have H4 := H4'
  clear H4'
  have H5' := Lib.hid (lawTTT.only H5.out t (fun j a b => D2_5.out j b a))
  clear H5
  have H5 := H5'
  clear H5'
  have T2 := Lib.hid t
  clear t
  go_wp2_with fail
  refine (markIntS_any _ x.now (k + (x.rounds.length : Nat) + (x.before.length : Nat)) _ base H3.out.1 (by omega)).mono ?_
  rintro e w3 ⟨rfl, o, g⟩
  have t := Only.of_grown g
  rw [← H3.out.2] at t
  have o' := (show OwnI w3 base _ _ S3 from ⟨o, H3.out.2⟩)
  clear g o
  have o := o'
  clear o'
  replace c3 := t.cell (fun hh => by have := B3.out _ hh; simp at this) c3
  replace c4 := t.cell (fun hh => by have := B3.out _ hh; simp at this) c4
  clear c2
  have H3' := Lib.hid o
  clear H3 o
  have H3 := H3'
  clear H3'
  have H1' := Lib.hid (lawI.only H1.out t D1_3.out)
  clear H1
  have H1 := H1'
  clear H1'
  have H2' := Lib.hid (lawI.only H2.out t D2_3.out)
  clear H2
  have H2 := H2'
  clear H2'
  have H4' := Lib.hid (lawII.only H4.out t (fun j a b => D3_4.out j b a))
  clear H4
  have H4 := H4'
  clear H4'
  have H5' := Lib.hid (lawTTT.only H5.out t (fun j a b => D3_5.out j b a))
  clear H5
  have H5 := H5'
  clear H5'
  have T3 := Lib.hid t
  clear t
  go_wp2_with fail
  refine (markIntSS_any _ x.slots (k + (x.rounds.length : Nat) + (x.before.length : Nat) + (x.now.length : Nat)) _ base S4 H4.out (by omega)).mono ?_
  rintro e w4 ⟨rfl, o, t⟩
  replace c4 := t.cell (fun hh => by have := B4.out _ hh; simp at this) c4
  clear c3
  have H4' := Lib.hid o
  clear H4 o
  have H4 := H4'
  clear H4'
  have H1' := Lib.hid (lawI.only H1.out t D1_4.out)
  clear H1
  have H1 := H1'
  clear H1'
  have H2' := Lib.hid (lawI.only H2.out t D2_4.out)
  clear H2
  have H2 := H2'
  clear H2'
  have H3' := Lib.hid (lawI.only H3.out t D3_4.out)
  clear H3
  have H3 := H3'
  clear H3'
  have H5' := Lib.hid (lawTTT.only H5.out t (fun j a b => D4_5.out j b a))
  clear H5
  have H5 := H5'
  clear H5'
  have T4 := Lib.hid t
  clear t
  go_wp2_with fail
  refine (markLetterSSS_any _ x.flight (k + (x.rounds.length : Nat) + (x.before.length : Nat) + (x.now.length : Nat) + (szR x.slots : Nat)) _ base S5 H5.out (by omega)).mono ?_
  rintro e w5 ⟨rfl, o, t⟩
  clear c4
  have H5' := Lib.hid o
  clear H5 o
  have H5 := H5'
  clear H5'
  have H1' := Lib.hid (lawI.only H1.out t D1_5.out)
  clear H1
  have H1 := H1'
  clear H1'
  have H2' := Lib.hid (lawI.only H2.out t D2_5.out)
  clear H2
  have H2 := H2'
  clear H2'
  have H3' := Lib.hid (lawI.only H3.out t D3_5.out)
  clear H3
  have H3 := H3'
  clear H3'
  have H4' := Lib.hid (lawII.only H4.out t D4_5.out)
  clear H4
  have H4 := H4'
  clear H4'
  have T5 := Lib.hid t
  clear t
  go_wp2_with fail
  go_ret
  refine ⟨ret_int (by omega), ⟨S1, S2, S3, S4, S5, H1.out, H2.out, H3.out, H4.out, H5.out, H8.out, H9.out⟩, ?_⟩
  have m1 : ∀ j ∈ S1, j ∈ S := fun j hj => by rw [H8.out]; simp [hj]
  have m2 : ∀ j ∈ S2, j ∈ S := fun j hj => by rw [H8.out]; simp [hj]
  have m3 : ∀ j ∈ S3, j ∈ S := fun j hj => by rw [H8.out]; simp [hj]
  have m4 : ∀ j ∈ S4, j ∈ S := fun j hj => by rw [H8.out]; simp [hj]
  have m5 : ∀ j ∈ S5, j ∈ S := fun j hj => by rw [H8.out]; simp [hj]
  exact ((((((Only.of_below Hb0.out).trans (T1.out.mono m1)).trans (T2.out.mono m2)).trans (T3.out.mono m3)).trans (T4.out.mono m4)).trans (T5.out.mono m5))
set_option maxHeartbeats 8000000 in
theorem heldAsyncState_any (v1 v2 v3 v4 v5 : Value) (x : ASt) (k : Nat) (w : World) (h : AsIn w v1 v2 v3 v4 v5 (mkAs k x)) (hl : k + cntAs x ≤ 4611686018427387904) :
    Calls Tryz.prog 22 #[.agg #[v1, v2, v3, v4, v5], .int .i64 k] w fun e w' => e = .returned (.int .i64 ((k + cntAs x : Nat) : Int)) ∧ Below w.heap.size w w' := by
  unfold cntAs at hl ⊢
  have hb0 : Below w.heap.size w (w.alloc (.cells #[v1, v2, v3, v4, v5] 34)) := (Below.refl _ _).alloc (Nat.le_refl _) _
  obtain ⟨h1, h2, h3, h4, h5⟩ := h.keep hb0
  have H1 := Lib.hid h1
  have H2 := Lib.hid h2
  have H3 := Lib.hid h3
  have H4 := Lib.hid h4
  have H5 := Lib.hid h5
  have Hb0 := Lib.hid hb0
  obtain ⟨A1, z1, rfl, _⟩ := h1
  obtain ⟨A2, z2, rfl, _⟩ := h2
  obtain ⟨A3, z3, rfl, _⟩ := h3
  obtain ⟨A4, z4, rfl, _⟩ := h4
  obtain ⟨A5, z5, rfl, _⟩ := h5
  clear h hb0
  go_enter Tryz.func22, Tryz.ntmps22
  go_wp2_with fail
  refine (heldIntS_any _ (k) x.rounds.length _ (by exact H1.out) (by omega)).mono ?_
  rintro e w1 ⟨rfl, rfl⟩
  go_wp2_with fail
  refine (heldIntS_any _ (k + (x.rounds.length : Nat)) x.before.length _ (by exact H2.out) (by omega)).mono ?_
  rintro e w1 ⟨rfl, rfl⟩
  go_wp2_with fail
  refine (heldIntS_any _ (k + (x.rounds.length : Nat) + (x.before.length : Nat)) x.now.length _ (by exact H3.out) (by omega)).mono ?_
  rintro e w1 ⟨rfl, rfl⟩
  go_wp2_with fail
  refine (heldIntSS_any _ x.slots (k + (x.rounds.length : Nat) + (x.before.length : Nat) + (x.now.length : Nat)) _ (by exact H4.out) (by omega)).mono ?_
  rintro e w1 ⟨rfl, rfl⟩
  go_wp2_with fail
  refine (heldLetterSSS_any _ x.flight (k + (x.rounds.length : Nat) + (x.before.length : Nat) + (x.now.length : Nat) + (szR x.slots : Nat)) _ (by exact H5.out) (by omega)).mono ?_
  rintro e w1 ⟨rfl, rfl⟩
  go_wp2_with fail
  go_ret
  exact ⟨ret_int (by omega), Hb0.out⟩
end Go.Proofs.YtomnaabadohecaaGreat
namespace Go.Proofs.YtomnaabadohecaaGreat
open Go.RowKit
/-! orders of integers and of lists -/
end Go.Proofs.YtomnaabadohecaaGreat
namespace Go.Proofs.YtomnaabadohecaaGreat
open Go.RowKit
/-! lists of configurations -/
end Go.Proofs.YtomnaabadohecaaGreat
namespace Go.Proofs.YtomnaabadohecaaGreat
open Go.RowKit
end Go.Proofs.YtomnaabadohecaaGreat
namespace Go.Proofs.YtomnaabadohecaaGreat
open Go.RowKit
end Go.Proofs.YtomnaabadohecaaGreat
namespace Go.Proofs.YtomnaabadohecaaGreat
open Go.RowKit Go.Shelf
attribute [local go_sem] Oper.semAt_some
/-! slices.Sorted(slices.Values(xs)) -/
/-- between two rounds of AppendSeq -/
def SInv (b0 : Nat) (w : World) (pre : List Int) (W : World) : Prop :=
  (∃ v, Boxed W b0 24 v ∧ Own W (b0 + 1) v pre) ∧ Below b0 w W ∧ b0 + 1 ≤ W.heap.size
end Go.Proofs.YtomnaabadohecaaGreat
namespace Go.Proofs.YtomnaabadohecaaGreat
open Go.RowKit
/-! insertion by swaps -/
def InsInv (orig l : List Int) (i k : Nat) : Prop := ∃ (A : List Int) (x : Int) (B C : List Int), l = A ++ x :: (B ++ C) ∧ A.length = k ∧ A.length + B.length = i ∧ (A ++ B).Pairwise (· ≤ ·) ∧ (∀ b ∈ B, x ≤ b) ∧ l.Perm orig
theorem ins_len {orig l : List Int} {i k : Nat} (h : InsInv orig l i k) : l.length = orig.length ∧ k ≤ i ∧ i < l.length := by
  obtain ⟨A, x, B, C, rfl, h1, h2, h3, h4, h5⟩ := h
  refine ⟨h5.length_eq, by omega, by simp; omega⟩
end Go.Proofs.YtomnaabadohecaaGreat
namespace Go.Proofs.YtomnaabadohecaaGreat
open Go.RowKit
/-! what copies of networks need -/
/-- the first k blocks of a world -/
def trunc (w : World) (k : Nat) : World := { w with heap := w.heap.extract 0 k }
theorem trunc_size (w : World) {k : Nat} (hk : k ≤ w.heap.size) : (trunc w k).heap.size = k := by simp [trunc]; omega
theorem trunc_since (w : World) {k : Nat} (hk : k ≤ w.heap.size) : Since (trunc w k) w := by
  refine ⟨rfl, rfl, rfl, by rw [trunc_size w hk]; exact hk, fun i hi => ?_⟩
  rw [trunc_size w hk] at hi
  simp [trunc, Array.getElem?_extract]
  omega
theorem since_trunc {w0 w : World} {k : Nat} (h : Since w0 w) (hk : k ≤ w.heap.size) (h0 : w0.heap.size ≤ k) : Since w0 (trunc w k) := by
  refine ⟨h.os, h.tape, h.output, by rw [trunc_size w hk]; exact h0, fun i hi => ?_⟩
  have := h.block i hi
  simp only [trunc, Array.getElem?_extract]
  rw [if_pos (by omega)]
  simpa using this
/-- a box of a network, its type too -/
def BoxN (W : World) (b : Nat) (x y z : Value) : Prop := W.heap[b]? = some (.cells #[x, y, z] 43)
theorem BoxN.box {W : World} {b : Nat} {x y z : Value} (h : BoxN W b x y z) : Box3 W b x y z := ⟨_, h⟩
theorem BoxN.lt {W : World} {b : Nat} {x y z : Value} (h : BoxN W b x y z) : b < W.heap.size := (Array.getElem?_eq_some_iff.1 h).1
theorem BoxN.since {W W' : World} {b : Nat} {x y z : Value} (h : BoxN W b x y z) (hs : Since W W') : BoxN W' b x y z := (hs.block b h.lt).trans h
def NewB (W : World) (B : Nat) (u : Value) : Prop := ∃ b, u = .pointer (some ⟨b, 0, none⟩) ∧ B ≤ b ∧ BoxN W b (.slice none 0 0) (.slice none 0 0) (.slice none 0 0)
theorem NewB.keep {W W' : World} {B : Nat} {u : Value} (h : NewB W B u) (hs : Since W W') : NewB W' B u := by
  obtain ⟨b, h1, h2, h3⟩ := h
  exact ⟨b, h1, h2, h3.since hs⟩
theorem NewB.new (W : World) {B : Nat} (h : B ≤ W.heap.size) : NewB (W.alloc (.cells #[.slice none 0 0, .slice none 0 0, .slice none 0 0] 43)) B (.pointer (some ⟨W.heap.size, 0, none⟩)) :=
  ⟨_, rfl, h, by show (W.heap.push _)[W.heap.size]? = _; rw [Array.getElem?_push_size]⟩
def NewRows (W : World) (B n : Nat) (u : Value) : Prop := ∃ g, u = .slice (some ⟨g, 0, none⟩) n n ∧ B ≤ g ∧ OwnEE W B (.slice (some ⟨g, 0, none⟩) n n) (List.replicate n []) [g]
theorem NewRows.keep {W W' : World} {B n : Nat} {u : Value} (h : NewRows W B n u) (hs : Since W W') : NewRows W' B n u := by
  obtain ⟨g, h1, h2, h3⟩ := h
  exact ⟨g, h1, h2, lawEE.keep h3 hs.below⟩
theorem BoxN.only {S : List Nat} {W W' : World} {b : Nat} {x y z : Value} (h : BoxN W b x y z) (ho : Only S W W') (hb : b ∉ S) : BoxN W' b x y z := (ho.block b h.lt hb).trans h
theorem BoxN.put0 {W : World} {b : Nat} {x y z : Value} (h : BoxN W b x y z) (u : Value) : BoxN (W.setCell ⟨b, 0, none⟩ u) b u y z := by
  unfold BoxN at h ⊢
  simp [World.setCell, Array.getElem?_modify, h]
theorem BoxN.put1 {W : World} {b : Nat} {x y z : Value} (h : BoxN W b x y z) (u : Value) : BoxN (W.setCell ⟨b, 1, none⟩ u) b x u z := by
  unfold BoxN at h ⊢
  simp [World.setCell, Array.getElem?_modify, h]
end Go.Proofs.YtomnaabadohecaaGreat
namespace Go.Proofs.YtomnaabadohecaaGreat
open Go.RowKit
/-! problems -/
theorem InsInv.at_ {orig l : List Int} {i k : Nat} (h : InsInv orig l i k) : k ≤ i ∧ i < l.length ∧ l.length = orig.length := by
  obtain ⟨h1, h2, h3⟩ := ins_len h
  exact ⟨h2, h3, h1⟩
end Go.Proofs.YtomnaabadohecaaGreat
namespace Go.Proofs.YtomnaabadohecaaGreat
open Go.RowKit
end Go.Proofs.YtomnaabadohecaaGreat
namespace Go.Proofs.YtomnaabadohecaaGreat
open Go.RowKit
/-! the search for a configuration -/
end Go.Proofs.YtomnaabadohecaaGreat
namespace Go.Proofs.YtomnaabadohecaaGreat
open Go.RowKit
/-! the test at a node -/
section
variable {α : Type} {p : α → Bool} {xs : List α}
end
-- the reference: a list lies in another
end Go.Proofs.YtomnaabadohecaaGreat
namespace Go.Proofs.YtomnaabadohecaaGreat
open Go.RowKit
/-! the test at a node, in the program -/
theorem SInv.since {b0 : Nat} {w W W' : World} {pre : List Int} (h : SInv b0 w pre W) (hs : Since W W') : SInv b0 w pre W' := by
  obtain ⟨⟨v, h1, h2⟩, h3, h4⟩ := h
  have hb := hs.below
  exact ⟨⟨v, (hb.block b0 h1.lt).trans h1, h2.keep hb⟩, h3.trans (hb.mono (by omega)), Nat.le_trans h4 hb.size⟩
end Go.Proofs.YtomnaabadohecaaGreat
namespace Go.Proofs.YtomnaabadohecaaGreat
open Go.RowKit
/-! the test at a port -/
end Go.Proofs.YtomnaabadohecaaGreat
namespace Go.Proofs.YtomnaabadohecaaGreat
open Go.RowKit
/-! the test of a whole labeling -/
end Go.Proofs.YtomnaabadohecaaGreat
namespace Go.Proofs.YtomnaabadohecaaGreat
open Go.RowKit
/-- a row of rows, one row more -/
theorem OwnRows.snoc {β : Type} {R : World → Nat → Value → β → List Nat → Prop} {e : TypeId} (L : RowLaw R) {w w' : World} {base g cap : Nat} {v u : Value} {xs : List β} {x : β} {S T : List Nat} (h : OwnRows e R w base v xs S) (hu : R w base u x T) (hd : ∀ j ∈ T, j ∉ S)
    (vs : List Value) (Ss : List (List Nat)) (h1 : w.ownsRow base e 1 v xs.length vs) (h2 : Ss.length = xs.length) (h3 : ∀ (k : Nat) u x T, vs[k]? = some u → xs[k]? = some x → Ss[k]? = some T → R w base u x T) (h4 : S = v.ownBlock.toList ++ Ss.flatten) (h5 : S.Nodup)
    (q1 : w'.ownsRow base e 1 (.slice (some ⟨g, 0, none⟩) (xs.length + 1) cap) (xs.length + 1) (vs ++ [u])) (q2 : w.grownBy w' v.ownBlock) (q3 : v.ownBlock = some g ∨ g = w.heap.size) :
    ∃ S', OwnRows e R w' base (.slice (some ⟨g, 0, none⟩) (xs.length + 1) cap) (xs ++ [x]) S' ∧ (∀ j ∈ S', j ∈ S ∨ j ∈ T ∨ j = w.heap.size) := by
  have hS := (rows_law e L).range h
  have hTr := L.range hu
  have hvl : vs.length = xs.length := by simpa using h1.1
  have h5' := h5
  rw [h4, List.nodup_append] at h5'
  have hin : ∀ j ∈ Ss.flatten, j ∈ S := fun j hj => by rw [h4]; exact List.mem_append_right _ hj
  have hon := Only.of_grown q2
  have hnv : ∀ j ∈ Ss.flatten, j ∉ v.ownBlock.toList := fun j hj hv => h5'.2.2 j hv j hj rfl
  have hTv : ∀ j ∈ T, j ∉ v.ownBlock.toList := fun j hj hv => hd j hj (by rw [h4]; exact List.mem_append_left _ hv)
  have hg : g ∉ Ss.flatten := fun hg => by
    rcases q3 with q3 | q3
    · exact hnv g hg (by rw [q3]; simp)
    · have := (hS g (hin g hg)).2; omega
  have hgT : g ∉ T := fun hg => by
    rcases q3 with q3 | q3
    · exact hTv g hg (by rw [q3]; simp)
    · have := (hTr g hg).2; omega
  refine ⟨[g] ++ (Ss ++ [T]).flatten, ⟨vs ++ [u], Ss ++ [T], ?_, by simp [h2], ?_, by simp [Value.ownBlock], ?_⟩, ?_⟩
  · rw [List.length_append]; exact q1
  · intro k u' x' T' hu' hx' hT'
    rcases Nat.lt_or_ge k xs.length with hk | hk
    · rw [List.getElem?_append_left (by omega)] at hu' hx' hT'
      exact L.only (h3 k u' x' T' hu' hx' hT') hon (fun j hj => hnv j (List.mem_flatten.2 ⟨T', List.mem_of_getElem? hT', hj⟩))
    · have hk1 : k = xs.length := by
        have := lt_of_get hx'
        simp at this; omega
      subst hk1
      rw [List.getElem?_append_right (Nat.le_refl _), Nat.sub_self] at hx'
      rw [← hvl, List.getElem?_append_right (Nat.le_refl _), Nat.sub_self] at hu'
      rw [← h2, List.getElem?_append_right (Nat.le_refl _), Nat.sub_self] at hT'
      simp at hu' hx' hT'
      subst hu' hx' hT'
      exact L.only hu hon hTv
  · rw [List.flatten_append, List.nodup_append]
    refine ⟨by simp, ?_, ?_⟩
    · rw [List.nodup_append]
      refine ⟨h5'.2.1, by simpa using L.nodup hu, ?_⟩
      intro a ha b hb e
      simp at hb
      subst e
      exact hd a hb (hin a ha)
    · intro a ha b hb e
      simp at ha
      subst e ha
      rcases List.mem_append.1 hb with hb | hb
      · exact hg hb
      · simp at hb; exact hgT hb
  · intro j hj
    rw [List.flatten_append] at hj
    rcases List.mem_append.1 hj with hj | hj
    · simp at hj
      subst hj
      rcases q3 with q3 | q3
      · left; rw [h4, q3]; simp
      · exact .inr (.inr q3)
    · rcases List.mem_append.1 hj with hj | hj
      · exact .inl (hin j hj)
      · simp at hj; exact .inr (.inl hj)
theorem ss_info : (Tryz.prog.info? 24).map (fun i => (i.zero, i.size, i.bytes)) = some (some (.slice none 0 0), 1, 24) := by kernel_rfl
end Go.Proofs.YtomnaabadohecaaGreat
namespace Go.Proofs.YtomnaabadohecaaGreat
open Go.RowKit
/-! copies of labelings, and the empty one -/
set_option maxRecDepth 100000 in
set_option maxHeartbeats 4000000 in
theorem repeat0_any (b c : Nat) (x : Int) (w : World) (hc : w.cell? ⟨b, 0, none⟩ = some (.int .i64 x)) :
    Calls Tryz.prog 164 #[.slice (some ⟨b, 0, none⟩) 1 c, .int .i64 0] w fun e w' => ∃ u, e = .returned u ∧ Own w' w.heap.size u [] ∧ Below w.heap.size w w' := by
  have e1 : IntKind.u64.wrap (0 : Int) = 0 := IntWalk.u64_in _ (by omega)
  have hm := Tryz.bits_Mul 1 0 (by omega) (by omega) w
  rw [show (1 * 0 / 18446744073709551616 : Nat) = 0 by omega, show (1 * 0 % 18446744073709551616 : Nat) = 0 by omega] at hm
  have Hm := Lib.hid hm
  have e2 : IntKind.i64.wrap (0 : Int) = 0 := wr64 _ (by omega) (by omega)
  have m2 : ∀ W : World, (Instr.makeSlice 24 (.int .i64 0) (.int .i64 0)).run Tryz.prog W = .ok (.slice (some ⟨W.heap.size, 0, none⟩) 0 0) (W.alloc (.cells #[] 3)) := run_mk_ints 0 (by omega)
  have Hc := Lib.hid hc
  clear hm hc
  go_enter Tryz.func164, Tryz.ntmps164
  go_wp2_with fail
  refine Hm.out.mono ?_
  rintro e w1 ⟨rfl, rfl⟩
  have HG2 : Hid ((w1.alloc (.cells #[] 3)).heap[w1.heap.size]? = some (.cells (repRow x 0 0).toArray 3 (0, 0))) := by
    show (w1.heap.push _)[w1.heap.size]? = _
    rw [Array.getElem?_push_size]
    simp [repRow]
  go_wp2_with (refine wpList_copy_splice rfl _ _ 24 24 rfl 3 Tryz.underlying24 (by kernel_rfl) (some ⟨w1.heap.size, 0, none⟩) (some ⟨b, 0, none⟩) 0 0 1 c rfl rfl w1.heap.size 0 (repRow x 0 0) 3 HG2.out [] rfl (fun h => by simp at h) (by simp) (by simp) w1.heap.size w1 (below_alloc _ _) (Nat.le_refl _) ?_; intro w3 hg3 hb3)
  have HG3 : Hid (w3.heap[w1.heap.size]? = some (.cells (repRow x 0 0).toArray 3 (0, 0))) := by
    show _ = _
    have := hg3.out
    simpa [splice, repRow] using this
  have HB3 := Lib.hid hb3
  clear hg3 hb3
  go_wp2
  go_loopw [8] (fun nv wr => nv = .int .i64 0 ∧ wr = w3) (fun _ _ => 0)
  case atStart => exact ⟨rfl, rfl⟩
  case round =>
    obtain ⟨rfl, rfl⟩ := hrel
    go_wp2
    go_ret
    exact ⟨_, rfl, own_rep (N := 0) HG3.out (Nat.le_refl _) (by omega), HB3.out⟩
theorem repeat_any (b c : Nat) (x : Int) (N : Nat) (w : World) (hN2 : N ≤ 1000000) (hc : w.cell? ⟨b, 0, none⟩ = some (.int .i64 x)) :
    Calls Tryz.prog 164 #[.slice (some ⟨b, 0, none⟩) 1 c, .int .i64 N] w fun e w' => ∃ u, e = .returned u ∧ Own w' w.heap.size u (List.replicate N x) ∧ Below w.heap.size w w' := by
  rcases Nat.eq_zero_or_pos N with h | h
  · subst h; exact repeat0_any b c x w hc
  · exact repeat1_any b c x N w h hN2 hc
def freeL (n : Net) : List (List Int) := n.ends.map fun es => List.replicate es.length (-1)
theorem freeL_len (n : Net) : (freeL n).length = n.ends.length := by simp [freeL]
theorem freeL_get {n : Net} {k : Nat} {es : List (Int × Int)} (h : n.ends[k]? = some es) : (freeL n)[k]? = some (List.replicate es.length (-1)) := by simp [freeL, h]
set_option maxHeartbeats 4000000 in
theorem unlabeled_any (ve vi vn : Value) (n : Net) (w : World) (h : NetIn w ve vi vn n) (hl1 : n.ends.length ≤ 1048576) (hr : ∀ (v : Nat) (es : List (Int × Int)), n.ends[v]? = some es → es.length ≤ 1000000) :
    Calls Tryz.prog 101 #[.agg #[ve, vi, vn]] w fun e w' => ∃ u S, e = .returned u ∧ OwnII w' w.heap.size u (freeL n) S ∧ Below w.heap.size w w' := by
  obtain ⟨w0, hw0⟩ : ∃ w0, w0 = (w).alloc (.cells #[ve, vi, vn] 43) := ⟨_, rfl⟩
  have hb0 : Below w.heap.size w w0 := by rw [hw0]; exact ((Below.refl _ _).alloc (by simp) _)
  have H := Lib.hid (h.keep hb0)
  obtain ⟨h1, h2, h3⟩ := h.keep hb0
  obtain ⟨A, c, rfl, hlc, hm, hA⟩ := h1
  obtain ⟨A2, c2, rfl, _, hm2, _⟩ := h2
  obtain ⟨A3, c3, rfl, _, hm3, _⟩ := h3
  unfold maxLen at hm hm2 hm3
  have p00 : ∀ W, Since w0 W → W.cell? ⟨w.heap.size, 0, none⟩ = some (.slice A n.ends.length c) := have_cell (by rw [hw0]; simp)
  have p01 : ∀ W, Since w0 W → W.cell? ⟨w.heap.size, 1, none⟩ = some (.slice A2 n.ids.length c2) := have_cell (by rw [hw0]; simp)
  have p02 : ∀ W, Since w0 W → W.cell? ⟨w.heap.size, 2, none⟩ = some (.slice A3 n.inputs.length c3) := have_cell (by rw [hw0]; simp)
  have Hb0 := Lib.hid hb0
  have Hw0 := Lib.hid hw0
  have HA := Lib.hid hA
  clear hA h
  clear hb0 hw0
  have Hr := Lib.hid hr
  clear hr
  obtain ⟨F, hF⟩ : ∃ F, F = freeL n := ⟨_, rfl⟩
  have hFl : F.length = n.ends.length := by rw [hF]; exact freeL_len n
  rw [← hF]
  have HF := Lib.hid hF
  clear hF
  go_enter Tryz.func101, Tryz.ntmps101
  go_upto_region 1 with (fail)
  rw [← Hw0.out]
  have hs0 : Since w0 w0 := since_refl _
  go_upto_region 3 with (at_make; refine mk_rowsI _ rfl _ _ rfl n.ends.length rfl rfl hl1 ?_; intro w1 ho1 hb1; have hs1 : Since w0 w1 := hb1)
  obtain ⟨g, hg⟩ : ∃ g, g = w0.heap.size := ⟨_, rfl⟩
  rw [← hg] at ho1 ⊢
  have hs1 : Since w0 w1 := hb1
  have Hg := Lib.hid hg
  clear hg hb1
  go_wp2
  go_loopw [13] (fun i wr => ∃ (k : Nat) (S : List Nat), k ≤ n.ends.length ∧ i = .int .i64 k ∧ OwnII wr w0.heap.size (.slice (some ⟨g, 0, none⟩) n.ends.length n.ends.length) (F.take k ++ List.replicate (F.length - k) []) S ∧ Since w0 wr) (fun i _ => n.ends.length - (intOf i).toNat)
  case atStart => exact ⟨0, _, Nat.zero_le _, rfl, by rw [hFl]; have := ho1; simpa [Hg.out] using this, hs1⟩
  case round =>
    obtain ⟨k, S, hk, rfl, ho, hb⟩ := hrel
    have Ho := Lib.hid ho
    have Hb := Lib.hid hb
    clear ho1 hs1 hs0 ho hb
    by_cases hlt : k < n.ends.length
    · obtain ⟨es, hes⟩ := getx n.ends k hlt
      obtain ⟨b, off, c', u, hA, hk', hc1, hrow⟩ := row_at H.out.es hes
      cases hA
      obtain ⟨A1, z1, rfl, hz1, hz2, -⟩ := hrow
      have hel := Hr.out k es hes
      have k1 := bc Hb.out.below hc1
      have Hx : Hid (F[k]? = some (List.replicate es.length (-1))) := by show _ = _; rw [HF.out]; exact freeL_get hes
      clear hc1 hes
      go_wp2_with fail
      refine (repeat_any wr.heap.size 1 (-1) es.length _ hel (by simp)).mono ?_
      rintro e w2 ⟨v2, rfl, hr2, hb2⟩
      have hI2 : OwnI w2 (wr.alloc (.cells #[.int .i64 (-1)] 3)).heap.size v2 (List.replicate es.length (-1)) v2.ownBlock.toList := ⟨hr2, rfl⟩
      have hsa : wr.heap.size ≤ (wr.alloc (.cells #[.int .i64 (-1)] 3)).heap.size := by simp
      have hw0 : w0.heap.size ≤ wr.heap.size := Hb.out.below.size
      have ho2 := lawII.keep (lawII.keep Ho.out (below_alloc wr (.cells #[.int .i64 (-1)] 3))) hb2
      obtain ⟨y, hy⟩ := getx (F.take k ++ List.replicate (F.length - k) []) k (by simp; omega)
      obtain ⟨_, _, y1, f1, _⟩ := OwnRows.at_ ho2 hy
      have hS := lawII.range Ho.out
      obtain ⟨S3, ho3, _⟩ := OwnRows.store lawI ho2 k (lawI.mono hI2 (by omega)) (fun j hj hjS => by have h1 := (lawI.range hI2 j hj).1; have := (hS _ hjS).2; omega)
      rw [set_fill [] F k _ Hx.out] at ho3
      have Ho3 := Lib.hid ho3
      have Hb3 : Hid (Since w0 (w2.setCell ⟨g, k, none⟩ v2)) := Below.setCell (Since.below ((since_alloc _ Hb.out).trans hb2)) (by show w0.heap.size ≤ g; rw [Hg.out]; exact Nat.le_refl _) _
      obtain ⟨B2, d2, hv2, _⟩ := id hr2.ints
      rw [List.length_replicate] at hv2
      subst hv2
      clear ho2 hy ho3 hb2 hr2 hS hI2 hsa hw0
      go_wp2
      go_roundw
      case rel => exact ⟨k + 1, S3, by omega, by go_num, Ho3.out, Hb3.out⟩
      case measure => simp [intOf]; omega
    · have e1 : F.take k ++ List.replicate (F.length - k) ([] : List Int) = F := by rw [List.take_of_length_le (by omega), show F.length - k = 0 by omega, List.replicate_zero, List.append_nil]
      have HO : Hid (OwnII wr w0.heap.size (.slice (some ⟨g, 0, none⟩) n.ends.length n.ends.length) F S) := by have := Ho.out; rwa [e1] at this
      clear e1
      go_wp2
      go_ret
      exact ⟨_, S, rfl, lawII.mono HO.out Hb0.out.size, Since.after Hb0.out Hb.out⟩
end Go.Proofs.YtomnaabadohecaaGreat
namespace Go.Proofs.YtomnaabadohecaaGreat
open Go.RowKit
/-! the solver's memory -/
theorem BoxA.put {w : World} {b : Nat} {vs : Array Value} (h : BoxA w b vs) (i : Nat) (u : Value) : BoxA (w.setCell ⟨b, i, none⟩ u) b (vs.setIfInBounds i u) := by
  obtain ⟨r, h⟩ := h
  refine ⟨r, ?_⟩
  simp [World.setCell, Array.getElem?_modify, h]
theorem BoxA.grown {w w' : World} {b : Nat} {vs : Array Value} {row : Option Nat} (h : BoxA w b vs) (hg : w.grownBy w' row) (hb : some b ≠ row) : BoxA w' b vs := by
  have hlt := h.lt
  obtain ⟨r, h'⟩ := h
  exact ⟨r, (hg.block b hlt hb).trans h'⟩
def SolM (w : World) (sb : Nat) (vs : Array Value) (l : List (List Int)) (ports : List (Int × Int)) (ul uf : Value) (SL : List Nat) (B : Nat) : Prop :=
  BoxA w sb vs ∧ OwnII w B ul l SL ∧ (∀ k ∈ SL, k < sb) ∧ ∃ T, OwnE w (sb + 1) uf ports T
theorem SolM.push {wr w3 : World} {sb : Nat} {vs : Array Value} {l : List (List Int)} {ports : List (Int × Int)} {ul uf : Value} {SL : List Nat} {B : Nat} {o : Obj} (h : SolM wr sb vs l ports ul uf SL B) {y : Int × Int} {g cap : Nat}
    (ho3 : ∃ T, OwnE w3 (sb + 1) (.slice (some ⟨g, 0, none⟩) (ports.length + 1) cap) (ports ++ [y]) T) (hg3 : (wr.alloc o).grownBy w3 uf.ownBlock) (hv3 : ∀ j, uf.ownBlock = some j → sb + 1 ≤ j) (hs : sb + 1 ≤ wr.heap.size) :
    BoxA w3 sb vs ∧ SolM (w3.setCell ⟨sb, 8, none⟩ (.slice (some ⟨g, 0, none⟩) (ports.length + 1) cap)) sb (vs.setIfInBounds 8 (.slice (some ⟨g, 0, none⟩) (ports.length + 1) cap)) l (ports ++ [y]) ul (.slice (some ⟨g, 0, none⟩) (ports.length + 1) cap) SL B ∧
      (∀ w0 : World, Since w0 wr → w0.heap.size ≤ sb → Since w0 (w3.setCell ⟨sb, 8, none⟩ (.slice (some ⟨g, 0, none⟩) (ports.length + 1) cap))) ∧ sb + 1 ≤ (w3.setCell ⟨sb, 8, none⟩ (.slice (some ⟨g, 0, none⟩) (ports.length + 1) cap)).heap.size := by
  obtain ⟨h1, h2, h3, h4⟩ := h
  have hb : BoxA w3 sb vs := (h1.alloc o).grown hg3 (fun e => by have := hv3 sb e.symm; omega)
  have hsz : wr.heap.size ≤ w3.heap.size := by have := hg3.size; simp at this; omega
  refine ⟨hb, ⟨hb.put 8 _, ?_, h3, ?_⟩, ?_, by rw [sizeSet]; omega⟩
  · refine lawII.stable h2 fun k hk => ?_
    have hk1 := h3 k hk
    rw [Below.heap_setCell _ _ _ k (by show k ≠ sb; omega), hg3.block k (by simp; omega) (fun e => by have := hv3 k e.symm; omega)]
    exact Below.heap_alloc wr o k (by omega)
  · obtain ⟨T, ho3⟩ := ho3
    exact ⟨T, RowLaw.put lawE ho3 (by show sb < sb + 1; omega) _⟩
  · intro w0 hw0 hle
    refine Below.setCell (Below.grown (Since.below (since_alloc o hw0)) hg3 ?_ (fun j hj => by have := hv3 j hj; omega)) (by show w0.heap.size ≤ sb; exact hle) _
    have := (Since.below hw0).size
    simp; omega
end Go.Proofs.YtomnaabadohecaaGreat
