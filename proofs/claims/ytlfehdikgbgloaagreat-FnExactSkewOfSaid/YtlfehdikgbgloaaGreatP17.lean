/- Parts of the proof: walks of functions and plain laws. -/
import Derived.Test.YtlfehdikgbgloaaGreatP14
import Derived.Test.YtlfehdikgbgloaaGreatP15
import Derived.Test.YtlfehdikgbgloaaGreatP16
namespace Go.Proofs.YtlfehdikgbgloaaGreat
open Go.RowKit
/-! the skew of a state -/
theorem szNet_idl2 {n : Net} (h : szNet n ≤ 1048576) : n.ids.length ≤ 17592186044416 := by unfold szNet at h; omega
theorem edge_two {n : Net} (hn : netOk n = true) {x : Ed} (hx : x ∈ edgesB n) : ∃ v i w j : Nat, x = ((v : Int), (i : Int), (w : Int), (j : Int)) ∧ v < n.ends.length ∧ w < n.ends.length := by
  obtain ⟨v, i, hv, hi, hk, rfl⟩ := edges_mem hx
  obtain ⟨w, j, e1, hw, hj, e2⟩ := row_back hn hv hi
  rw [e1]
  exact ⟨v, i, w, j, rfl, hv, hw⟩
def skStep (rs : List Int) (s : Int) (e : Ed) : Int := mx s (mx (rs.getD e.1.toNat 0 - rs.getD e.2.2.1.toNat 0) (-(rs.getD e.1.toNat 0 - rs.getD e.2.2.1.toNat 0)))
def skewB (rs : List Int) (es : List Ed) : Int := es.foldl (skStep rs) 0
def fnExactSkewOf_r0 (m : Mac) (n : Net) (x : ASt) : Int := if syGoodB m n x = true then skewB x.rounds (edgesB n) else 0
def fnExactSkewOf_r1 (m : Mac) (n : Net) (x : ASt) : Bool := syGoodB m n x
theorem sk_true {m : Mac} {n : Net} {x : ASt} (h : syGoodB m n x = true) : (Value.tuple #[.int .i64 (fnExactSkewOf_r0 m n x), .bool (fnExactSkewOf_r1 m n x)]) = .tuple #[.int .i64 (skewB x.rounds (edgesB n)), .bool true] := by
  unfold fnExactSkewOf_r0 fnExactSkewOf_r1
  rw [if_pos h, h]
theorem sk_false {m : Mac} {n : Net} {x : ASt} (h : syGoodB m n x = false) : (Value.tuple #[.int .i64 (fnExactSkewOf_r0 m n x), .bool (fnExactSkewOf_r1 m n x)]) = .tuple #[.int .i64 0, .bool false] := by
  unfold fnExactSkewOf_r0 fnExactSkewOf_r1
  rw [if_neg (by rw [h]; simp), h]
theorem sy_rounds {m : Mac} {n : Net} {x : ASt} (h : syGoodB m n x = true) : x.rounds.length = n.ends.length ∧ (∀ r ∈ x.rounds, 0 ≤ r ∧ r ≤ 40) ∧ netOk n = true := by
  unfold syGoodB asyncOkB at h
  simp only [Bool.and_eq_true, beq_iff_eq] at h
  obtain ⟨ha, ⟨⟨⟨h1, h2⟩, _⟩, _⟩, _⟩ := h
  refine ⟨by omega, fun r hr => ?_, asked_net ha⟩
  unfold allB at h2
  rw [List.all_eq_true] at h2
  exact inB_true.1 (h2 r hr)
theorem sk_bd (rs : List Int) (es : List Ed) (h : ∀ e ∈ es, ∃ v w : Nat, e.1 = v ∧ e.2.2.1 = w ∧ v < rs.length ∧ w < rs.length) (hr : ∀ r ∈ rs, 0 ≤ r ∧ r ≤ 40) : ∀ s, 0 ≤ s ∧ s ≤ 40 → 0 ≤ es.foldl (skStep rs) s ∧ es.foldl (skStep rs) s ≤ 40 := by
  induction es with
  | nil => intro s hs; exact hs
  | cons e r ih =>
    intro s hs
    rw [List.foldl_cons]
    refine ih (fun x hx => h x (List.mem_cons_of_mem _ hx)) _ ?_
    obtain ⟨v, w, e1, e2, hv, hw⟩ := h e (by simp)
    unfold skStep mx
    rw [e1, e2, Int.toNat_natCast, Int.toNat_natCast]
    have a := hr _ (List.getElem_mem hv)
    have b := hr _ (List.getElem_mem hw)
    rw [List.getD_eq_getElem?_getD, List.getElem?_eq_getElem hv, List.getD_eq_getElem?_getD, List.getElem?_eq_getElem hw]
    simp only [Option.getD_some]
    split <;> split <;> omega
theorem l1Abs_any (d : Int) (w : World) (hd : -100 ≤ d ∧ d ≤ 100) : Calls Tryz.prog 88 #[.int .i64 d] w fun e w' => e = .returned (.int .i64 (mx d (-d))) ∧ w = w' := by
  have mn : IntKind.i64.wrap (-d) = -d := wr64 _ (by omega) (by omega)
  clear hd
  go_enter Tryz.func88, Tryz.ntmps88
  go_wp2_with fail
  refine (l1Most_any d (-d) w).mono ?_
  rintro e w' ⟨rfl, rfl⟩
  go_wp2
  go_ret
  exact ⟨rfl, rfl⟩
set_option maxRecDepth 100000 in
set_option maxHeartbeats 8000000 in
theorem fnExactSkewOf_spec (ma mb mc md ve vi vn xa xb xc xd xf : Value) (m : Mac) (n : Net) (x : ASt) (w : World) (hMa : MacIn w ma mb mc md m) (h : NetIn w ve vi vn n) (hx : AsIn w xa xb xc xd xf x) (_ : szMac m ≤ 1048576) (hn : szNet n ≤ 1048576) (hsx : szAs x ≤ 1048576) :
    Calls Tryz.prog 34 #[.agg #[.int .i64 m.degree, .int .i64 m.states, .int .i64 m.messages, ma, mb, mc, md], .agg #[ve, vi, vn], .agg #[xa, xb, xc, xd, xf]] w fun e w' => e = .returned (.tuple #[.int .i64 (fnExactSkewOf_r0 m n x), .bool (fnExactSkewOf_r1 m n x)]) ∧ Below w.heap.size w w' := by
  have Hil := Lib.hid (szNet_idl2 hn)
  clear hn hsx
  obtain ⟨w0, hw0⟩ : ∃ w0, w0 = (((w).alloc (.cells #[.int .i64 m.degree, .int .i64 m.states, .int .i64 m.messages, ma, mb, mc, md] 62)).alloc (.cells #[ve, vi, vn] 31)).alloc (.cells #[xa, xb, xc, xd, xf] 66) := ⟨_, rfl⟩
  have hb0 : Below w.heap.size w w0 := by rw [hw0]; exact ((((Below.refl _ _).alloc (by simp <;> omega) _).alloc (by simp <;> omega) _).alloc (by simp <;> omega) _)
  have H := Lib.hid (h.keep hb0)
  obtain ⟨h1, h2, h3⟩ := h.keep hb0
  obtain ⟨A, c, rfl, hlc, hm, hA⟩ := h1
  obtain ⟨A2, c2, rfl, _, hm2, _⟩ := h2
  obtain ⟨A3, c3, rfl, _, hm3, _⟩ := h3
  unfold maxLen at hm hm2 hm3
  have hkM := hMa.keep hb0
  have HM := Lib.hid hkM
  obtain ⟨M0, mz0, rfl, hlM0, hmM0, hMe0⟩ := id hkM.1
  unfold maxLen at hmM0
  have HMe0 := Lib.hid hMe0
  clear hMe0
  obtain ⟨M1, mz1, rfl, hlM1, hmM1, hMe1⟩ := id hkM.2.1
  unfold maxLen at hmM1
  have HMe1 := Lib.hid hMe1
  clear hMe1
  obtain ⟨M2, mz2, rfl, hlM2, hmM2, hMe2⟩ := id hkM.2.2.1
  unfold maxLen at hmM2
  have HMe2 := Lib.hid hMe2
  clear hMe2
  obtain ⟨M3, mz3, rfl, hlM3, hmM3, hMe3⟩ := id hkM.2.2.2
  unfold maxLen at hmM3
  have HMe3 := Lib.hid hMe3
  clear hMe3
  clear hkM hMa
  have hkX := hx.keep hb0
  have HX := Lib.hid hkX
  obtain ⟨X0, xz0, rfl, hlX0, hmX0, hXe0⟩ := id hkX.1
  unfold maxLen at hmX0
  have HXe0 := Lib.hid hXe0
  clear hXe0
  obtain ⟨X1, xz1, rfl, hlX1, hmX1, hXe1⟩ := id hkX.2.1
  unfold maxLen at hmX1
  have HXe1 := Lib.hid hXe1
  clear hXe1
  obtain ⟨X2, xz2, rfl, hlX2, hmX2, hXe2⟩ := id hkX.2.2.1
  unfold maxLen at hmX2
  have HXe2 := Lib.hid hXe2
  clear hXe2
  obtain ⟨X3, xz3, rfl, hlX3, hmX3, hXe3⟩ := id hkX.2.2.2.1
  unfold maxLen at hmX3
  have HXe3 := Lib.hid hXe3
  clear hXe3
  obtain ⟨X4, xz4, rfl, hlX4, hmX4, hXe4⟩ := id hkX.2.2.2.2
  unfold maxLen at hmX4
  have HXe4 := Lib.hid hXe4
  clear hXe4
  clear hkX hx
  have p00 : ∀ W, Since w0 W → W.cell? ⟨w.heap.size, 0, none⟩ = some (.int .i64 m.degree) := have_cell (by rw [hw0]; simp [go_sem])
  have p01 : ∀ W, Since w0 W → W.cell? ⟨w.heap.size, 1, none⟩ = some (.int .i64 m.states) := have_cell (by rw [hw0]; simp [go_sem])
  have p02 : ∀ W, Since w0 W → W.cell? ⟨w.heap.size, 2, none⟩ = some (.int .i64 m.messages) := have_cell (by rw [hw0]; simp [go_sem])
  have p03 : ∀ W, Since w0 W → W.cell? ⟨w.heap.size, 3, none⟩ = some (.slice M0 m.start.length mz0) := have_cell (by rw [hw0]; simp [go_sem])
  have p04 : ∀ W, Since w0 W → W.cell? ⟨w.heap.size, 4, none⟩ = some (.slice M1 m.send.length mz1) := have_cell (by rw [hw0]; simp [go_sem])
  have p05 : ∀ W, Since w0 W → W.cell? ⟨w.heap.size, 5, none⟩ = some (.slice M2 m.clauses.length mz2) := have_cell (by rw [hw0]; simp [go_sem])
  have p06 : ∀ W, Since w0 W → W.cell? ⟨w.heap.size, 6, none⟩ = some (.slice M3 m.output.length mz3) := have_cell (by rw [hw0]; simp [go_sem])
  have p10 : ∀ W, Since w0 W → W.cell? ⟨w.heap.size + 1, 0, none⟩ = some (.slice A n.ends.length c) := have_cell (by rw [hw0]; simp [go_sem])
  have p11 : ∀ W, Since w0 W → W.cell? ⟨w.heap.size + 1, 1, none⟩ = some (.slice A2 n.ids.length c2) := have_cell (by rw [hw0]; simp [go_sem])
  have p12 : ∀ W, Since w0 W → W.cell? ⟨w.heap.size + 1, 2, none⟩ = some (.slice A3 n.inputs.length c3) := have_cell (by rw [hw0]; simp [go_sem])
  have p20 : ∀ W, Since w0 W → W.cell? ⟨w.heap.size + 1 + 1, 0, none⟩ = some (.slice X0 x.rounds.length xz0) := have_cell (by rw [hw0]; simp [go_sem])
  have p21 : ∀ W, Since w0 W → W.cell? ⟨w.heap.size + 1 + 1, 1, none⟩ = some (.slice X1 x.before.length xz1) := have_cell (by rw [hw0]; simp [go_sem])
  have p22 : ∀ W, Since w0 W → W.cell? ⟨w.heap.size + 1 + 1, 2, none⟩ = some (.slice X2 x.now.length xz2) := have_cell (by rw [hw0]; simp [go_sem])
  have p23 : ∀ W, Since w0 W → W.cell? ⟨w.heap.size + 1 + 1, 3, none⟩ = some (.slice X3 x.slots.length xz3) := have_cell (by rw [hw0]; simp [go_sem])
  have p24 : ∀ W, Since w0 W → W.cell? ⟨w.heap.size + 1 + 1, 4, none⟩ = some (.slice X4 x.flight.length xz4) := have_cell (by rw [hw0]; simp [go_sem])
  have Hb0 := Lib.hid hb0
  have Hw0 := Lib.hid hw0
  have HA := Lib.hid hA
  clear hA h
  clear hb0 hw0
  have hs0 : Since w0 w0 := since_refl _
  go_enter Tryz.func34, Tryz.ntmps34
  go_upto_region 1 with (fail)
  rw [← Hw0.out]
  go_wp2_with fail
  refine (syGood_any _ _ _ _ _ _ _ _ _ _ _ _ m n x _ HM.out H.out HX.out Hil.out).mono ?_
  rintro e w1 ⟨rfl, hb⟩
  have hs1 : Since w0 w1 := hb
  clear hb hs0
  cases hg : syGoodB m n x
  · have Hr := Lib.hid (sk_false hg)
    have HS := Lib.hid hs1
    clear hs1
    go_wp2
    go_ret2
    exact ⟨congrArg Ending.returned Hr.out.symm, Since.after Hb0.out HS.out⟩
  · have Hr := Lib.hid (sk_true hg)
    obtain ⟨hrl, hrb, hnn⟩ := sy_rounds hg
    have HR := Lib.hid (And.intro hrl hrb)
    have Hn := Lib.hid hnn
    have Hea := Lib.hid (fun x (hx : x ∈ edgesB n) => edge_two hnn hx)
    have Hbd := Lib.hid (fun k => sk_bd x.rounds ((edgesB n).take k) (fun e he => by obtain ⟨v, i, w, j, rfl, h1, h2⟩ := edge_two hnn (List.mem_of_mem_take he); exact ⟨v, w, rfl, rfl, by omega, by omega⟩) hrb 0 (by omega))
    clear hg hrl hrb hnn
    go_wp2_with fail
    refine (neEdges_any _ _ _ n _ (H.out.keep hs1.below) Hn.out).mono ?_
    rintro e w2 ⟨u, rfl, ho, hb⟩
    have hs2 : Since w0 w2 := hs1.trans hb
    obtain ⟨⟨UA, uc, rfl, hul, hum⟩, hat⟩ := ho.at
    unfold maxLen at hum
    have Hat := Lib.hid hat
    have hs22 : Since w2 w2 := since_refl _
    clear hb hs1 ho hat
    obtain ⟨es, hes⟩ : ∃ es, es = edgesB n := ⟨_, rfl⟩
    rw [← hes] at Hr Hea Hbd Hat hul ⊢
    clear hes
    go_wp2
    go_loopw [8, 19] (fun c i wr => ∃ k : Nat, k ≤ es.length ∧ i = .int .i64 k ∧ c = .int .i64 ((es.take k).foldl (skStep x.rounds) 0) ∧ Since w0 wr ∧ Since w2 wr) (fun _ i _ => es.length - (intOf i).toNat)
    case atStart => exact ⟨0, Nat.zero_le _, rfl, rfl, hs2, hs22⟩
    case round =>
      obtain ⟨k, hk, rfl, rfl, hsr, hsr2⟩ := hrel
      clear hs2 hs22
      by_cases hlt : k < es.length
      · obtain ⟨y, hy⟩ : ∃ y, es[k]? = some y := ⟨_, List.getElem?_eq_getElem hlt⟩
        obtain ⟨v, i, q, j, rfl, hv, hq⟩ := Hea.out y (List.mem_of_getElem? hy)
        obtain ⟨g, c, b, eU, d0, hbg, k0, k1, k2, k3⟩ := Hat.out k _ hy
        cases eU
        unfold rowV at d0
        simp only at k0 k2
        have r0 := lift_cell (have_cell d0) hsr2
        have r1 := lift_cell (have_cell k0) hsr2
        have r2 := lift_cell (have_cell k2) hsr2
        have hvr : v < x.rounds.length := by have := HR.out.1; omega
        have hqr : q < x.rounds.length := by have := HR.out.1; omega
        obtain ⟨rv, hrv⟩ := getx x.rounds v hvr
        obtain ⟨rq, hrq⟩ := getx x.rounds q hqr
        have hb1 := HR.out.2 rv (List.mem_of_getElem? hrv)
        have hb2 := HR.out.2 rq (List.mem_of_getElem? hrq)
        obtain ⟨_, _, hv3, _, _, hA3⟩ := HX.out.1
        cases hv3
        obtain ⟨bi, offi, rfl, hci⟩ := hA3 v rv hrv
        obtain ⟨bj, offj, hej, hcj⟩ := hA3 q rq hrq
        cases hej
        have r3 := lift_cell (have_cell hci) hsr
        have r4 := lift_cell (have_cell hcj) hsr
        have y5 := lift_cell p20 hsr
        obtain ⟨s, hs⟩ : ∃ s, s = (es.take k).foldl (skStep x.rounds) 0 := ⟨_, rfl⟩
        have Hnx : Hid ((es.take (k + 1)).foldl (skStep x.rounds) 0 = mx s (mx (rv - rq) (-(rv - rq)))) := by
          show _ = _
          rw [take_snoc hy, List.foldl_append, ← hs]
          show skStep x.rounds s _ = _
          unfold skStep
          simp only [Int.toNat_natCast]
          rw [getD_of hrv, getD_of hrq]
        rw [← hs]
        have md : IntKind.i64.wrap (rv - rq) = rv - rq := wr64 _ (by omega) (by omega)
        have Hd : Hid (-100 ≤ rv - rq ∧ rv - rq ≤ 100) := by show _ ∧ _; omega
        have Hs := Lib.hid hs
        have HS := Lib.hid hsr
        have HS2 := Lib.hid hsr2
        have hww : Since wr wr := since_refl _
        clear hy hrv hrq hci hcj hA3 d0 k0 k1 k2 k3 hs hb1 hb2
        go_upto_region 7 with (fail)
        refine wp_region_flow 18 (Since wr) (by kernel_rfl) (by kernel_rfl) (by simp) (since_drew (since_refl _)) ?_
        simp only [List.take_succ_cons, List.take_zero, List.drop_succ_cons, List.drop_zero]
        refine flow_val (v := ?_) rfl ?_ ?_; rotate_left; (intro W hW; go_simp; with_reducible rfl)
        simp only [Act.put, List.setIfInBounds_toArray, List.set_cons_succ, List.set_cons_zero]
        refine flow_val (v := ?_) rfl ?_ ?_; rotate_left; (intro W hW; go_simp; with_reducible rfl)
        simp only [Act.put, List.setIfInBounds_toArray, List.set_cons_succ, List.set_cons_zero]
        refine flow_val (v := ?_) rfl ?_ ?_; rotate_left; (intro W hW; go_simp; with_reducible rfl)
        simp only [Act.put, List.setIfInBounds_toArray, List.set_cons_succ, List.set_cons_zero]
        refine flow_val (v := ?_) rfl ?_ ?_; rotate_left; (intro W hW; go_simp; with_reducible rfl)
        simp only [Act.put, List.setIfInBounds_toArray, List.set_cons_succ, List.set_cons_zero]
        refine flow_val (v := ?_) rfl ?_ ?_; rotate_left; (intro W hW; go_simp; with_reducible rfl)
        simp only [Act.put, List.setIfInBounds_toArray, List.set_cons_succ, List.set_cons_zero]
        refine flow_val (v := ?_) rfl ?_ ?_; rotate_left; (intro W hW; go_simp; with_reducible rfl)
        simp only [Act.put, List.setIfInBounds_toArray, List.set_cons_succ, List.set_cons_zero]
        refine flow_val (v := ?_) rfl ?_ ?_; rotate_left; (intro W hW; go_simp; with_reducible rfl)
        simp only [Act.put, List.setIfInBounds_toArray, List.set_cons_succ, List.set_cons_zero]
        refine flow_val (v := ?_) rfl ?_ ?_; rotate_left; (intro W hW; go_simp; with_reducible rfl)
        simp only [Act.put, List.setIfInBounds_toArray, List.set_cons_succ, List.set_cons_zero]
        refine flow_val (v := ?_) rfl ?_ ?_; rotate_left; (intro W hW; go_simp; with_reducible rfl)
        simp only [Act.put, List.setIfInBounds_toArray, List.set_cons_succ, List.set_cons_zero]
        refine flow_val (v := ?_) rfl ?_ ?_; rotate_left; (intro W hW; go_simp; with_reducible rfl)
        simp only [Act.put, List.setIfInBounds_toArray, List.set_cons_succ, List.set_cons_zero]
        refine flow_val (v := ?_) rfl ?_ ?_; rotate_left; (intro W hW; go_simp; with_reducible rfl)
        simp only [Act.put, List.setIfInBounds_toArray, List.set_cons_succ, List.set_cons_zero]
        refine flow_val (v := ?_) rfl ?_ ?_; rotate_left; (intro W hW; go_simp; with_reducible rfl)
        simp only [Act.put, List.setIfInBounds_toArray, List.set_cons_succ, List.set_cons_zero]
        refine flow_val (v := ?_) rfl ?_ ?_; rotate_left; (intro W hW; go_simp; with_reducible rfl)
        simp only [Act.put, List.setIfInBounds_toArray, List.set_cons_succ, List.set_cons_zero]
        refine flow_val (v := ?_) rfl ?_ ?_; rotate_left; (intro W hW; go_simp; with_reducible rfl)
        simp only [Act.put, List.setIfInBounds_toArray, List.set_cons_succ, List.set_cons_zero]
        refine flow_val (v := ?_) rfl ?_ ?_; rotate_left; (intro W hW; go_simp; with_reducible rfl)
        simp only [Act.put, List.setIfInBounds_toArray, List.set_cons_succ, List.set_cons_zero]
        refine flow_val (v := ?_) rfl ?_ ?_; rotate_left; (intro W hW; go_simp; with_reducible rfl)
        simp only [Act.put, List.setIfInBounds_toArray, List.set_cons_succ, List.set_cons_zero]
        refine flow_op ?_ rfl ?_ ?_; rotate_left; (intro W hW; unfold Gives; go_simp; (with_reducible refine (l1Abs_any _ W Hd.out).mono ?_); rintro e W' ⟨rfl, hb3⟩; first | (refine ⟨?_, Since.trans hW hb3⟩; with_reducible rfl) | (subst hb3; refine ⟨?_, hW⟩; with_reducible rfl))
        simp only [Act.put, List.setIfInBounds_toArray, List.set_cons_succ, List.set_cons_zero]
        refine flow_op ?_ rfl ?_ ?_; rotate_left; (intro W hW; unfold Gives; go_simp; (with_reducible refine (l1Most_any _ _ W).mono ?_); rintro e W' ⟨rfl, hb3⟩; first | (refine ⟨?_, Since.trans hW hb3⟩; with_reducible rfl) | (subst hb3; refine ⟨?_, hW⟩; with_reducible rfl))
        simp only [Act.put, List.setIfInBounds_toArray, List.set_cons_succ, List.set_cons_zero]
        intro W hW
        have HW := Lib.hid hW
        clear hW hww hsr hsr2
        go_wp2
        go_roundw
        case rel => exact ⟨k + 1, by omega, by go_num, by rw [Hnx.out], HS.out.after HW.out, HS2.out.after HW.out⟩
        case measure => simp [intOf]; omega
      · obtain rfl : k = es.length := by omega
        have HS := Lib.hid hsr
        rw [List.take_length]
        have Hz : Hid (es.foldl (skStep x.rounds) 0 = skewB x.rounds es) := rfl
        rw [Hz.out]
        clear hsr hsr2 hlt hk
        go_wp2
        go_ret2
        exact ⟨congrArg Ending.returned Hr.out.symm, Since.after Hb0.out HS.out⟩
set_option maxRecDepth 100000 in
set_option maxHeartbeats 8000000 in
theorem fnExactSkewOf_impl (ma mb mc md ve vi vn xa xb xc xd xf : Value) (m : Mac) (n : Net) (x : ASt) (w : World) (hMa : MacIn w ma mb mc md m) (h : NetIn w ve vi vn n) (hx : AsIn w xa xb xc xd xf x) (_ : szMac m ≤ 1048576) (hn : szNet n ≤ 1048576) (hsx : szAs x ≤ 1048576) :
    Calls Tryz.prog 37 #[.agg #[.int .i64 m.degree, .int .i64 m.states, .int .i64 m.messages, ma, mb, mc, md], .agg #[ve, vi, vn], .agg #[xa, xb, xc, xd, xf]] w fun e w' => e = .returned (.tuple #[.int .i64 (fnExactSkewOf_r0 m n x), .bool (fnExactSkewOf_r1 m n x)]) ∧ Below w.heap.size w w' := by
  have Hil := Lib.hid (szNet_idl2 hn)
  clear hn hsx
  obtain ⟨w0, hw0⟩ : ∃ w0, w0 = (((w).alloc (.cells #[.int .i64 m.degree, .int .i64 m.states, .int .i64 m.messages, ma, mb, mc, md] 62)).alloc (.cells #[ve, vi, vn] 31)).alloc (.cells #[xa, xb, xc, xd, xf] 66) := ⟨_, rfl⟩
  have hb0 : Below w.heap.size w w0 := by rw [hw0]; exact ((((Below.refl _ _).alloc (by simp <;> omega) _).alloc (by simp <;> omega) _).alloc (by simp <;> omega) _)
  have H := Lib.hid (h.keep hb0)
  obtain ⟨h1, h2, h3⟩ := h.keep hb0
  obtain ⟨A, c, rfl, hlc, hm, hA⟩ := h1
  obtain ⟨A2, c2, rfl, _, hm2, _⟩ := h2
  obtain ⟨A3, c3, rfl, _, hm3, _⟩ := h3
  unfold maxLen at hm hm2 hm3
  have hkM := hMa.keep hb0
  have HM := Lib.hid hkM
  obtain ⟨M0, mz0, rfl, hlM0, hmM0, hMe0⟩ := id hkM.1
  unfold maxLen at hmM0
  have HMe0 := Lib.hid hMe0
  clear hMe0
  obtain ⟨M1, mz1, rfl, hlM1, hmM1, hMe1⟩ := id hkM.2.1
  unfold maxLen at hmM1
  have HMe1 := Lib.hid hMe1
  clear hMe1
  obtain ⟨M2, mz2, rfl, hlM2, hmM2, hMe2⟩ := id hkM.2.2.1
  unfold maxLen at hmM2
  have HMe2 := Lib.hid hMe2
  clear hMe2
  obtain ⟨M3, mz3, rfl, hlM3, hmM3, hMe3⟩ := id hkM.2.2.2
  unfold maxLen at hmM3
  have HMe3 := Lib.hid hMe3
  clear hMe3
  clear hkM hMa
  have hkX := hx.keep hb0
  have HX := Lib.hid hkX
  obtain ⟨X0, xz0, rfl, hlX0, hmX0, hXe0⟩ := id hkX.1
  unfold maxLen at hmX0
  have HXe0 := Lib.hid hXe0
  clear hXe0
  obtain ⟨X1, xz1, rfl, hlX1, hmX1, hXe1⟩ := id hkX.2.1
  unfold maxLen at hmX1
  have HXe1 := Lib.hid hXe1
  clear hXe1
  obtain ⟨X2, xz2, rfl, hlX2, hmX2, hXe2⟩ := id hkX.2.2.1
  unfold maxLen at hmX2
  have HXe2 := Lib.hid hXe2
  clear hXe2
  obtain ⟨X3, xz3, rfl, hlX3, hmX3, hXe3⟩ := id hkX.2.2.2.1
  unfold maxLen at hmX3
  have HXe3 := Lib.hid hXe3
  clear hXe3
  obtain ⟨X4, xz4, rfl, hlX4, hmX4, hXe4⟩ := id hkX.2.2.2.2
  unfold maxLen at hmX4
  have HXe4 := Lib.hid hXe4
  clear hXe4
  clear hkX hx
  have p00 : ∀ W, Since w0 W → W.cell? ⟨w.heap.size, 0, none⟩ = some (.int .i64 m.degree) := have_cell (by rw [hw0]; simp [go_sem])
  have p01 : ∀ W, Since w0 W → W.cell? ⟨w.heap.size, 1, none⟩ = some (.int .i64 m.states) := have_cell (by rw [hw0]; simp [go_sem])
  have p02 : ∀ W, Since w0 W → W.cell? ⟨w.heap.size, 2, none⟩ = some (.int .i64 m.messages) := have_cell (by rw [hw0]; simp [go_sem])
  have p03 : ∀ W, Since w0 W → W.cell? ⟨w.heap.size, 3, none⟩ = some (.slice M0 m.start.length mz0) := have_cell (by rw [hw0]; simp [go_sem])
  have p04 : ∀ W, Since w0 W → W.cell? ⟨w.heap.size, 4, none⟩ = some (.slice M1 m.send.length mz1) := have_cell (by rw [hw0]; simp [go_sem])
  have p05 : ∀ W, Since w0 W → W.cell? ⟨w.heap.size, 5, none⟩ = some (.slice M2 m.clauses.length mz2) := have_cell (by rw [hw0]; simp [go_sem])
  have p06 : ∀ W, Since w0 W → W.cell? ⟨w.heap.size, 6, none⟩ = some (.slice M3 m.output.length mz3) := have_cell (by rw [hw0]; simp [go_sem])
  have p10 : ∀ W, Since w0 W → W.cell? ⟨w.heap.size + 1, 0, none⟩ = some (.slice A n.ends.length c) := have_cell (by rw [hw0]; simp [go_sem])
  have p11 : ∀ W, Since w0 W → W.cell? ⟨w.heap.size + 1, 1, none⟩ = some (.slice A2 n.ids.length c2) := have_cell (by rw [hw0]; simp [go_sem])
  have p12 : ∀ W, Since w0 W → W.cell? ⟨w.heap.size + 1, 2, none⟩ = some (.slice A3 n.inputs.length c3) := have_cell (by rw [hw0]; simp [go_sem])
  have p20 : ∀ W, Since w0 W → W.cell? ⟨w.heap.size + 1 + 1, 0, none⟩ = some (.slice X0 x.rounds.length xz0) := have_cell (by rw [hw0]; simp [go_sem])
  have p21 : ∀ W, Since w0 W → W.cell? ⟨w.heap.size + 1 + 1, 1, none⟩ = some (.slice X1 x.before.length xz1) := have_cell (by rw [hw0]; simp [go_sem])
  have p22 : ∀ W, Since w0 W → W.cell? ⟨w.heap.size + 1 + 1, 2, none⟩ = some (.slice X2 x.now.length xz2) := have_cell (by rw [hw0]; simp [go_sem])
  have p23 : ∀ W, Since w0 W → W.cell? ⟨w.heap.size + 1 + 1, 3, none⟩ = some (.slice X3 x.slots.length xz3) := have_cell (by rw [hw0]; simp [go_sem])
  have p24 : ∀ W, Since w0 W → W.cell? ⟨w.heap.size + 1 + 1, 4, none⟩ = some (.slice X4 x.flight.length xz4) := have_cell (by rw [hw0]; simp [go_sem])
  have Hb0 := Lib.hid hb0
  have Hw0 := Lib.hid hw0
  have HA := Lib.hid hA
  clear hA h
  clear hb0 hw0
  have hs0 : Since w0 w0 := since_refl _
  go_enter Tryz.func37, Tryz.ntmps37
  go_upto_region 1 with (fail)
  rw [← Hw0.out]
  go_wp2_with fail
  refine (implIsAsync_any _ _ _ _ _ _ _ _ _ _ _ _ m n x _ HM.out H.out HX.out Hil.out).mono ?_
  rintro e w1 ⟨rfl, hb⟩
  have hs1 : Since w0 w1 := hb
  clear hb hs0
  cases hg : syGoodB m n x
  · have Hr := Lib.hid (sk_false hg)
    have HS := Lib.hid hs1
    clear hs1
    go_wp2
    go_ret2
    exact ⟨congrArg Ending.returned Hr.out.symm, Since.after Hb0.out HS.out⟩
  · have Hr := Lib.hid (sk_true hg)
    obtain ⟨hrl, hrb, hnn⟩ := sy_rounds hg
    have HR := Lib.hid (And.intro hrl hrb)
    have Hn := Lib.hid hnn
    have Hea := Lib.hid (fun x (hx : x ∈ edgesB n) => edge_two hnn hx)
    have Hbd := Lib.hid (fun k => sk_bd x.rounds ((edgesB n).take k) (fun e he => by obtain ⟨v, i, w, j, rfl, h1, h2⟩ := edge_two hnn (List.mem_of_mem_take he); exact ⟨v, w, rfl, rfl, by omega, by omega⟩) hrb 0 (by omega))
    clear hg hrl hrb hnn
    go_wp2_with fail
    refine (edges_any _ _ _ n _ (H.out.keep hs1.below) Hn.out).mono ?_
    rintro e w2 ⟨u, rfl, ho, hb⟩
    have hs2 : Since w0 w2 := hs1.trans hb
    obtain ⟨UA, uc, rfl, hum, hul, hat⟩ := OwnD.read ho
    unfold maxLen at hum
    have Hat := Lib.hid hat
    have hs22 : Since w2 w2 := since_refl _
    clear hb hs1 ho hat
    obtain ⟨es, hes⟩ : ∃ es, es = edgesB n := ⟨_, rfl⟩
    rw [← hes] at Hr Hea Hbd Hat hul ⊢
    clear hes
    go_wp2
    go_loopw [8, 20] (fun c i wr => ∃ k : Nat, k ≤ es.length ∧ i = .int .i64 k ∧ c = .int .i64 ((es.take k).foldl (skStep x.rounds) 0) ∧ Since w0 wr ∧ Since w2 wr) (fun _ i _ => es.length - (intOf i).toNat)
    case atStart => exact ⟨0, Nat.zero_le _, rfl, rfl, hs2, hs22⟩
    case round =>
      obtain ⟨k, hk, rfl, rfl, hsr, hsr2⟩ := hrel
      clear hs2 hs22
      by_cases hlt : k < es.length
      · obtain ⟨y, hy⟩ : ∃ y, es[k]? = some y := ⟨_, List.getElem?_eq_getElem hlt⟩
        obtain ⟨v, i, q, j, rfl, hv, hq⟩ := Hea.out y (List.mem_of_getElem? hy)
        obtain ⟨b, rfl, k0, k1, k2, k3⟩ := Hat.out k _ hy
        simp only at k0 k1 k2 k3
        have r0 := lift_cell (have_cell k0) hsr2
        have r1 := lift_cell (have_cell k1) hsr2
        have r2 := lift_cell (have_cell k2) hsr2
        have r3 := lift_cell (have_cell k3) hsr2
        have hvr : v < x.rounds.length := by have := HR.out.1; omega
        have hqr : q < x.rounds.length := by have := HR.out.1; omega
        obtain ⟨rv, hrv⟩ := getx x.rounds v hvr
        obtain ⟨rq, hrq⟩ := getx x.rounds q hqr
        have hb1 := HR.out.2 rv (List.mem_of_getElem? hrv)
        have hb2 := HR.out.2 rq (List.mem_of_getElem? hrq)
        obtain ⟨_, _, hv3, _, _, hA3⟩ := HX.out.1
        cases hv3
        obtain ⟨bi, offi, rfl, hci⟩ := hA3 v rv hrv
        obtain ⟨bj, offj, hej, hcj⟩ := hA3 q rq hrq
        cases hej
        obtain ⟨s, hs⟩ : ∃ s, s = (es.take k).foldl (skStep x.rounds) 0 := ⟨_, rfl⟩
        have Hnx : Hid ((es.take (k + 1)).foldl (skStep x.rounds) 0 = max (max s (rv - rq)) (-(rv - rq))) := by
          show _ = _
          rw [take_snoc hy, List.foldl_append, ← hs]
          show skStep x.rounds s _ = _
          unfold skStep
          simp only [Int.toNat_natCast]
          rw [getD_of hrv, getD_of hrq, mx_max, mx_max]
          omega
        rw [← hs]
        have md : IntKind.i64.wrap (rv - rq) = rv - rq := wr64 _ (by omega) (by omega)
        have mn : IntKind.i64.wrap (-(rv - rq)) = -(rv - rq) := wr64 _ (by omega) (by omega)
        have Hs := Lib.hid hs
        obtain ⟨w5, hw5⟩ : ∃ w5, w5 = wr.alloc (.cells #[.int .i64 v, .int .i64 i, .int .i64 q, .int .i64 j] 112) := ⟨_, rfl⟩
        have hs5 : Since wr w5 := by rw [hw5]; exact since_alloc _ (since_refl _)
        have z0 : ∀ W, Since w5 W → W.cell? ⟨wr.heap.size, 0, none⟩ = some (.int .i64 v) := have_cell (by rw [hw5]; simp)
        have z2 : ∀ W, Since w5 W → W.cell? ⟨wr.heap.size, 2, none⟩ = some (.int .i64 q) := have_cell (by rw [hw5]; simp)
        have y3 := lift_cell (lift_cell (have_cell hci) hsr) hs5
        have y4 := lift_cell (lift_cell (have_cell hcj) hsr) hs5
        have y5 := lift_cell (lift_cell p20 hsr) hs5
        have HS := Lib.hid (hsr.after hs5)
        have HS2 := Lib.hid (hsr2.after hs5)
        have Hw5 := Lib.hid hw5
        clear hy hrv hrq hci hcj hA3 k0 k1 k2 k3 hs hb1 hb2 hw5 hs5
        go_upto_region 7 with (fail)
        rw [← Hw5.out]
        clear r0 r1 r2 r3 hsr hsr2
        refine wp_region_flow 14 (Since w5) (by kernel_rfl) (by kernel_rfl) (by simp) (since_drew (since_refl _)) ?_
        simp only [List.take_succ_cons, List.take_zero, List.drop_succ_cons, List.drop_zero]
        refine flow_val (v := ?_) rfl ?_ ?_; rotate_left; (intro W hW; go_simp; with_reducible rfl)
        simp only [Act.put, List.setIfInBounds_toArray, List.set_cons_succ, List.set_cons_zero]
        refine flow_val (v := ?_) rfl ?_ ?_; rotate_left; (intro W hW; go_simp; with_reducible rfl)
        simp only [Act.put, List.setIfInBounds_toArray, List.set_cons_succ, List.set_cons_zero]
        refine flow_val (v := ?_) rfl ?_ ?_; rotate_left; (intro W hW; go_simp; with_reducible rfl)
        simp only [Act.put, List.setIfInBounds_toArray, List.set_cons_succ, List.set_cons_zero]
        refine flow_val (v := ?_) rfl ?_ ?_; rotate_left; (intro W hW; go_simp; with_reducible rfl)
        simp only [Act.put, List.setIfInBounds_toArray, List.set_cons_succ, List.set_cons_zero]
        refine flow_val (v := ?_) rfl ?_ ?_; rotate_left; (intro W hW; go_simp; with_reducible rfl)
        simp only [Act.put, List.setIfInBounds_toArray, List.set_cons_succ, List.set_cons_zero]
        refine flow_val (v := ?_) rfl ?_ ?_; rotate_left; (intro W hW; go_simp; with_reducible rfl)
        simp only [Act.put, List.setIfInBounds_toArray, List.set_cons_succ, List.set_cons_zero]
        refine flow_val (v := ?_) rfl ?_ ?_; rotate_left; (intro W hW; go_simp; with_reducible rfl)
        simp only [Act.put, List.setIfInBounds_toArray, List.set_cons_succ, List.set_cons_zero]
        refine flow_val (v := ?_) rfl ?_ ?_; rotate_left; (intro W hW; go_simp; with_reducible rfl)
        simp only [Act.put, List.setIfInBounds_toArray, List.set_cons_succ, List.set_cons_zero]
        refine flow_val (v := ?_) rfl ?_ ?_; rotate_left; (intro W hW; go_simp; with_reducible rfl)
        simp only [Act.put, List.setIfInBounds_toArray, List.set_cons_succ, List.set_cons_zero]
        refine flow_val (v := ?_) rfl ?_ ?_; rotate_left; (intro W hW; go_simp; with_reducible rfl)
        simp only [Act.put, List.setIfInBounds_toArray, List.set_cons_succ, List.set_cons_zero]
        refine flow_val (v := ?_) rfl ?_ ?_; rotate_left; (intro W hW; go_simp; with_reducible rfl)
        simp only [Act.put, List.setIfInBounds_toArray, List.set_cons_succ, List.set_cons_zero]
        refine flow_val (v := ?_) rfl ?_ ?_; rotate_left; (intro W hW; go_simp; with_reducible rfl)
        simp only [Act.put, List.setIfInBounds_toArray, List.set_cons_succ, List.set_cons_zero]
        refine flow_val (v := ?_) rfl ?_ ?_; rotate_left; (intro W hW; go_simp; with_reducible rfl)
        simp only [Act.put, List.setIfInBounds_toArray, List.set_cons_succ, List.set_cons_zero]
        refine flow_val (v := ?_) rfl ?_ ?_; rotate_left; (intro W hW; go_simp; with_reducible rfl)
        simp only [Act.put, List.setIfInBounds_toArray, List.set_cons_succ, List.set_cons_zero]
        intro W hW
        have HW := Lib.hid hW
        clear hW
        go_wp2
        go_roundw
        case rel => exact ⟨k + 1, by omega, by go_num, by rw [Hnx.out]; congr 1; rw [Int.max_def, Int.max_def]; (repeat' split) <;> omega, HS.out.after HW.out, HS2.out.after HW.out⟩
        case measure => simp [intOf]; omega
      · obtain rfl : k = es.length := by omega
        have HS := Lib.hid hsr
        rw [List.take_length]
        have Hz : Hid (es.foldl (skStep x.rounds) 0 = skewB x.rounds es) := rfl
        rw [Hz.out]
        clear hsr hsr2 hlt hk
        go_wp2
        go_ret2
        exact ⟨congrArg Ending.returned Hr.out.symm, Since.after Hb0.out HS.out⟩
end Go.Proofs.YtlfehdikgbgloaaGreat
