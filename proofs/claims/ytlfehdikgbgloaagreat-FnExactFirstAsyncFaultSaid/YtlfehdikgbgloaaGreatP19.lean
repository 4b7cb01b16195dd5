/- Parts of the proof: walks of functions and plain laws. -/
import Derived.Test.YtlfehdikgbgloaaGreatP18
import Derived.Test.YtlfehdikgbgloaaGreatP12
import Derived.Test.YtlfehdikgbgloaaGreatP1
import Derived.Test.YtlfehdikgbgloaaGreatP17
import Derived.Test.YtlfehdikgbgloaaGreatP16
namespace Go.Proofs.YtlfehdikgbgloaaGreat
open Go.RowKit
set_option maxRecDepth 100000 in
set_option maxHeartbeats 8000000 in
theorem stepStates_any (ma mb mc md ve vi vn vs : Value) (m : Mac) (n : Net) (st : List Int) (w : World) (hMa : MacIn w ma mb mc md m) (h : NetIn w ve vi vn n) (hs : IntS w vs st) (hAs : Asked m n) (hSt : StOk m n st) :
    Calls Tryz.prog 171 #[.agg #[.int .i64 m.degree, .int .i64 m.states, .int .i64 m.messages, ma, mb, mc, md], .agg #[ve, vi, vn], vs] w fun e w' => ∃ u, e = .returned u ∧ Own w' w.heap.size u (stepB m n st) ∧ Below w.heap.size w w' := by
  have hn40 := (netOk_len hAs.net).2
  have hn1 := (netOk_len hAs.net).1
  have HAs := Lib.hid hAs
  have HSt := Lib.hid hSt
  have Hsl := Lib.hid hSt.1
  clear hAs hSt
  obtain ⟨w0, hw0⟩ : ∃ w0, w0 = ((w).alloc (.cells #[.int .i64 m.degree, .int .i64 m.states, .int .i64 m.messages, ma, mb, mc, md] 62)).alloc (.cells #[ve, vi, vn] 31) := ⟨_, rfl⟩
  have hb0 : Below w.heap.size w w0 := by rw [hw0]; exact (((Below.refl _ _).alloc (by simp <;> omega) _).alloc (by simp <;> omega) _)
  have H := Lib.hid (h.keep hb0)
  obtain ⟨h1, h2, h3⟩ := h.keep hb0
  obtain ⟨A, c, rfl, hlc, hm, hA⟩ := h1
  obtain ⟨A2, c2, rfl, _, hm2, _⟩ := h2
  obtain ⟨A3, c3, rfl, _, hm3, _⟩ := h3
  unfold maxLen at hm hm2 hm3
  have hkM := hMa.keep hb0
  have HM := Lib.hid hkM
  obtain ⟨M0, mz0, rfl, hlM0, hmM0, hMe0⟩ := id hkM.1
  unfold maxLen at hmM0
  have HMe0 := Lib.hid hMe0
  clear hMe0
  obtain ⟨M1, mz1, rfl, hlM1, hmM1, hMe1⟩ := id hkM.2.1
  unfold maxLen at hmM1
  have HMe1 := Lib.hid hMe1
  clear hMe1
  obtain ⟨M2, mz2, rfl, hlM2, hmM2, hMe2⟩ := id hkM.2.2.1
  unfold maxLen at hmM2
  have HMe2 := Lib.hid hMe2
  clear hMe2
  obtain ⟨M3, mz3, rfl, hlM3, hmM3, hMe3⟩ := id hkM.2.2.2
  unfold maxLen at hmM3
  have HMe3 := Lib.hid hMe3
  clear hMe3
  clear hkM hMa
  have p00 : ∀ W, Since w0 W → W.cell? ⟨w.heap.size, 0, none⟩ = some (.int .i64 m.degree) := have_cell (by rw [hw0]; simp)
  have p01 : ∀ W, Since w0 W → W.cell? ⟨w.heap.size, 1, none⟩ = some (.int .i64 m.states) := have_cell (by rw [hw0]; simp)
  have p02 : ∀ W, Since w0 W → W.cell? ⟨w.heap.size, 2, none⟩ = some (.int .i64 m.messages) := have_cell (by rw [hw0]; simp)
  have p03 : ∀ W, Since w0 W → W.cell? ⟨w.heap.size, 3, none⟩ = some (.slice M0 m.start.length mz0) := have_cell (by rw [hw0]; simp)
  have p04 : ∀ W, Since w0 W → W.cell? ⟨w.heap.size, 4, none⟩ = some (.slice M1 m.send.length mz1) := have_cell (by rw [hw0]; simp)
  have p05 : ∀ W, Since w0 W → W.cell? ⟨w.heap.size, 5, none⟩ = some (.slice M2 m.clauses.length mz2) := have_cell (by rw [hw0]; simp)
  have p06 : ∀ W, Since w0 W → W.cell? ⟨w.heap.size, 6, none⟩ = some (.slice M3 m.output.length mz3) := have_cell (by rw [hw0]; simp)
  have p10 : ∀ W, Since w0 W → W.cell? ⟨w.heap.size + 1, 0, none⟩ = some (.slice A n.ends.length c) := have_cell (by rw [hw0]; simp)
  have p11 : ∀ W, Since w0 W → W.cell? ⟨w.heap.size + 1, 1, none⟩ = some (.slice A2 n.ids.length c2) := have_cell (by rw [hw0]; simp)
  have p12 : ∀ W, Since w0 W → W.cell? ⟨w.heap.size + 1, 2, none⟩ = some (.slice A3 n.inputs.length c3) := have_cell (by rw [hw0]; simp)
  have Hb0 := Lib.hid hb0
  have Hw0 := Lib.hid hw0
  have HA := Lib.hid hA
  clear hA h
  clear hb0 hw0
  have HV := Lib.hid (hs.keep Hb0.out)
  obtain ⟨VAS, cS, rfl, hSl, hSm, -⟩ := hs
  unfold maxLen at hSm
  have hs0 : Since w0 w0 := since_refl _
  have Hsn := Lib.hid (show (stepB m n st).length = st.length by rw [step_len, Hsl.out])
  go_enter Tryz.func171, Tryz.ntmps171
  go_upto_region 1 with (fail)
  rw [← Hw0.out]
  go_wp2_with fail
  refine (clone_any _ st w0 HV.out (by have := Hsl.out; omega)).mono ?_
  rintro e w1 ⟨u, rfl, ho, hb1⟩
  obtain ⟨AU, cU, rfl, hUl, hUm, _⟩ := id ho.ints
  unfold maxLen at hUm
  obtain ⟨g, hg⟩ : ∃ g, AU = some ⟨g, 0, none⟩ := by
    rcases ownsRow_cases ho with ⟨h0, h0'⟩ | ⟨g, cc, h0, _⟩
    · have := Hsl.out; omega
    · cases h0; exact ⟨g, rfl⟩
  subst hg
  have hgr := World.ownsRow.lt ho g (by simp [Value.ownBlock])
  have Hgr := Lib.hid hgr
  have Ho1 := Lib.hid ho
  have hs1 : Since w0 w1 := hs0.trans hb1
  have HS1 := Lib.hid hs1
  clear ho hb1 hs0 hgr
  go_wp2_with fail
  refine (inboxes_any _ _ _ _ _ _ _ _ m n st w1 (HM.out.keep hs1.below) (H.out.keep hs1.below) (HV.out.keep hs1.below) HAs.out HSt.out).mono ?_
  rintro e w2 ⟨ut, ST, rfl, hot, hb2⟩
  have hgS : g ∉ ST := fun hm => by have := (lawII.range hot g hm).1; have := Hgr.out.2; omega
  have HgS := Lib.hid hgS
  have Hot := Lib.hid hot
  obtain ⟨AT, cT, rfl, hTl, hTm, _⟩ := id (OwnII.read hot)
  have hil : (inboxL m n st).length = n.ends.length := inboxL_len m n st
  rw [hil] at hTl ⊢
  have Hil := Lib.hid hil
  unfold maxLen at hTm
  have Ho2 := Lib.hid (Own.since Ho1.out hb2)
  have HS2 := Lib.hid (hs1.trans hb2)
  clear hot hb2 hs1 hgS hil
  go_wp2
  go_loopw [18] (fun i wr => ∃ k : Nat, k ≤ n.ends.length ∧ i = .int .i64 k ∧ Own wr w0.heap.size (.slice (some ⟨g, 0, none⟩) st.length cU) ((stepB m n st).take k ++ st.drop k) ∧ OwnII wr w1.heap.size (.slice AT (inboxL m n st).length cT) (inboxL m n st) ST ∧ Since w0 wr) (fun i _ => n.ends.length - (intOf i).toNat)
  case atStart => exact ⟨0, Nat.zero_le _, rfl, by simpa using Ho2.out, Hot.out, HS2.out⟩
  case round =>
    obtain ⟨k, hk, rfl, ho, hot, hsr⟩ := hrel
    have Ho := Lib.hid ho
    have Hotr := Lib.hid hot
    clear ho hot
    by_cases hlt : k < n.ends.length
    · have hks : k < st.length := by have := Hsl.out; omega
      obtain ⟨s, hsx⟩ := getx st k hks
      obtain ⟨s1, s2⟩ := HSt.out.2 s (List.mem_of_getElem? hsx)
      obtain ⟨sN, rfl⟩ := Int.eq_ofNat_of_zero_le s1
      have hol := HAs.out.olen
      obtain ⟨o, hox⟩ := getx m.output sN (by omega)
      obtain ⟨b3, off3, hA3, hc3⟩ := ints_at HV.out hsx
      obtain ⟨b4, off4, hA4, hc4⟩ := ints_at HM.out.2.2.2 hox
      obtain ⟨A', c', e', _, _, hAT⟩ := OwnII.read Hotr.out
      cases e'
      obtain ⟨b5, off5, u5', hA5, hc5, hrow⟩ := hAT k _ (inboxL_get hlt)
      subst hA3 hA4 hA5
      obtain ⟨AR, cR, rfl, hRl, hRm, _⟩ := id hrow
      have q3 := have_cell (hsr.cell hc3)
      have q4 := have_cell (hsr.cell hc4)
      have q5 := have_cell hc5
      have HRow := Lib.hid (show ∀ X, Since wr X → IntS X (.slice AR (inboxB m n st k).length cR) (inboxB m n st k) from fun X hX => hrow.keep hX.below)
      have hoL := lt_of_get hox
      have Hsx := Lib.hid hsx
      have Hox := Lib.hid hox
      have t00 := lift_cell p00 hsr
      have t01 := lift_cell p01 hsr
      have t02 := lift_cell p02 hsr
      have t03 := lift_cell p03 hsr
      have t04 := lift_cell p04 hsr
      have t05 := lift_cell p05 hsr
      have t06 := lift_cell p06 hsr
      have hrr : Since wr wr := since_refl _
      have Hsr := Lib.hid hsr
      have Hkn := Lib.hid hlt
      have HP := Lib.hid (And.intro p05 (And.intro p10 (And.intro p11 p12)))
      unfold maxLen at hRm
      clear hsx hox hc3 hc4 hc5 hrow hsr p00 p01 p02 p03 p04 p05 p06 p10 p11 p12 s1 s2 hol hAT
      go_upto_region 5 with (fail)
      refine wp_region_flow 9 (Since wr) (by kernel_rfl) (by kernel_rfl) (by simp) (since_drew hrr) ?_
      simp only [List.take_succ_cons, List.take_zero, List.drop_succ_cons, List.drop_zero]
      refine flow_val (v := ?_) rfl ?_ ?_; rotate_left; (intro W hW; go_simp; with_reducible rfl)
      simp only [Act.put, List.setIfInBounds_toArray, List.set_cons_succ, List.set_cons_zero]
      refine flow_val (v := ?_) rfl ?_ ?_; rotate_left; (intro W hW; go_simp; with_reducible rfl)
      simp only [Act.put, List.setIfInBounds_toArray, List.set_cons_succ, List.set_cons_zero]
      refine flow_val (v := ?_) rfl ?_ ?_; rotate_left; (intro W hW; go_simp; with_reducible rfl)
      simp only [Act.put, List.setIfInBounds_toArray, List.set_cons_succ, List.set_cons_zero]
      refine flow_val (v := ?_) rfl ?_ ?_; rotate_left; (intro W hW; go_simp; with_reducible rfl)
      simp only [Act.put, List.setIfInBounds_toArray, List.set_cons_succ, List.set_cons_zero]
      refine flow_val (v := ?_) rfl ?_ ?_; rotate_left; (intro W hW; go_simp; with_reducible rfl)
      simp only [Act.put, List.setIfInBounds_toArray, List.set_cons_succ, List.set_cons_zero]
      refine flow_val (v := ?_) rfl ?_ ?_; rotate_left; (intro W hW; go_simp; with_reducible rfl)
      simp only [Act.put, List.setIfInBounds_toArray, List.set_cons_succ, List.set_cons_zero]
      refine flow_val (v := ?_) rfl ?_ ?_; rotate_left; (intro W hW; go_simp; with_reducible rfl)
      simp only [Act.put, List.setIfInBounds_toArray, List.set_cons_succ, List.set_cons_zero]
      refine flow_val (v := ?_) rfl ?_ ?_; rotate_left; (intro W hW; go_simp; with_reducible rfl)
      simp only [Act.put, List.setIfInBounds_toArray, List.set_cons_succ, List.set_cons_zero]
      refine flow_val (v := ?_) rfl ?_ ?_; rotate_left; (intro W hW; go_simp; with_reducible rfl)
      simp only [Act.put, List.setIfInBounds_toArray, List.set_cons_succ, List.set_cons_zero]
      intro W hW
      obtain ⟨cl, hcl⟩ : ∃ cl, clauseB m (sN : Int) (inboxB m n st k) = cl := ⟨_, rfl⟩
      have Hcl := Lib.hid hcl
      clear hcl
      cases hoo : (decide (0 ≤ o))
      · have hoo2 : o < 0 := by simpa using hoo
        have Hoo := Lib.hid hoo2
        clear hoo hoo2 hrr
        go_upto_region 6 with (fail)
        refine wp_region_flow 8 (Since wr) (by kernel_rfl) (by kernel_rfl) (by simp) (since_drew hW) ?_
        simp only [List.take_succ_cons, List.take_zero, List.drop_succ_cons, List.drop_zero]
        refine flow_val (v := ?_) rfl ?_ ?_; rotate_left; (intro W hW; go_simp; with_reducible rfl)
        simp only [Act.put, List.setIfInBounds_toArray, List.set_cons_succ, List.set_cons_zero]
        refine flow_val (v := ?_) rfl ?_ ?_; rotate_left; (intro W hW; go_simp; with_reducible rfl)
        simp only [Act.put, List.setIfInBounds_toArray, List.set_cons_succ, List.set_cons_zero]
        refine flow_val (v := ?_) rfl ?_ ?_; rotate_left; (intro W hW; go_simp; with_reducible rfl)
        simp only [Act.put, List.setIfInBounds_toArray, List.set_cons_succ, List.set_cons_zero]
        refine flow_val (v := ?_) rfl ?_ ?_; rotate_left; (intro W hW; go_simp; with_reducible rfl)
        simp only [Act.put, List.setIfInBounds_toArray, List.set_cons_succ, List.set_cons_zero]
        refine flow_val (v := ?_) rfl ?_ ?_; rotate_left; (intro W hW; go_simp; with_reducible rfl)
        simp only [Act.put, List.setIfInBounds_toArray, List.set_cons_succ, List.set_cons_zero]
        refine flow_val (v := ?_) rfl ?_ ?_; rotate_left; (intro W hW; go_simp; with_reducible rfl)
        simp only [Act.put, List.setIfInBounds_toArray, List.set_cons_succ, List.set_cons_zero]
        refine flow_op ?_ rfl ?_ ?_; rotate_left; (intro W hW; unfold Gives; go_simp; (with_reducible refine (clauseFor_any _ _ _ _ _ m (sN : Int) (inboxB m n st k) W (HM.out.keep (Hsr.out.after hW).below) (HRow.out W hW)).mono ?_); rintro e W' ⟨rfl, hb3⟩; first | (refine ⟨?_, Since.trans hW hb3⟩; with_reducible rfl) | (subst hb3; refine ⟨?_, hW⟩; with_reducible rfl))
        simp only [Act.put, List.setIfInBounds_toArray, List.set_cons_succ, List.set_cons_zero]
        refine flow_val (v := ?_) rfl ?_ ?_; rotate_left; (intro W hW; go_simp; with_reducible rfl)
        simp only [Act.put, List.setIfInBounds_toArray, List.set_cons_succ, List.set_cons_zero]
        intro W3 hW3
        rw [Hcl.out]
        have Ho3 := Lib.hid (Own.since Ho.out hW3)
        have Hot3 := Lib.hid (lawII.keep Hotr.out hW3.below)
        have HS3 := Lib.hid (Hsr.out.after hW3)
        by_cases hcc : 0 ≤ cl
        · obtain ⟨q, rfl⟩ := Int.eq_ofNat_of_zero_le hcc
          obtain ⟨c, hcx⟩ := clause_some Hcl.out
          have Hnx := Lib.hid (next_yes Hsx.out Hcl.out (by rw [Int.toNat_natCast]; exact Hox.out) (by have := Hoo.out; simp; omega) rfl hcx)
          obtain ⟨b6, off6, u6', hA6, hd1, hd2, hd3, hib⟩ := HMe2.out q c hcx
          subst hA6
          have q6 := HS3.out.cell hd3
          have hql := lt_of_get hcx
          have fz := Ho3.out.free k
          have cz := Ho3.out.cell (mix_at (by rw [Hsn.out]) Hsx.out)
          have z5 := HP.out.1 W3 HS3.out
          clear hcx hd1 hd2 hd3 hib hW hW3 t00 t01 t02 t03 t04 t05 t06 q3 q4 q5 hcc
          go_wp2
          go_roundw
          case rel =>
            refine ⟨k + 1, by omega, by go_num, ?_, ?_, HS3.out.setCell Hgr.out.1 _⟩
            · have h9 := Ho3.out.set (k := k) c.next
              rw [mix_set (by rw [Hsn.out]) (by rw [step_get Hkn.out, Hnx.out])] at h9
              exact h9
            · exact lawII.stable Hot3.out (fun j hj => Below.heap_setCell W3 _ _ j (fun e => HgS.out (by have e' : j = g := e; exact e' ▸ hj)))
          case measure => simp [intOf]; omega
        · have Hnx := Lib.hid (next_no Hsx.out Hcl.out (by rw [Int.toNat_natCast]; exact Hox.out) (by simp; omega))
          clear hW hW3 t00 t01 t02 t03 t04 t05 t06 q3 q4 q5
          go_wp2
          go_roundw
          case rel => exact ⟨k + 1, by omega, by go_num, by rw [← mix_same (by rw [step_get Hkn.out, Hnx.out]) Hsx.out]; exact Ho3.out, Hot3.out, HS3.out⟩
          case measure => simp [intOf]; omega
      · have hoo2 : 0 ≤ o := by simpa using hoo
        have Hnx := Lib.hid (next_no Hsx.out Hcl.out (by rw [Int.toNat_natCast]; exact Hox.out) (by simp; omega))
        have Ho3 := Lib.hid (Own.since Ho.out hW)
        have Hot3 := Lib.hid (lawII.keep Hotr.out hW.below)
        have HS3 := Lib.hid (Hsr.out.after hW)
        clear hoo hoo2 hW hrr t00 t01 t02 t03 t04 t05 t06 q3 q4 q5
        go_wp2
        go_roundw
        case rel => exact ⟨k + 1, by omega, by go_num, by rw [← mix_same (by rw [step_get Hkn.out, Hnx.out]) Hsx.out]; exact Ho3.out, Hot3.out, HS3.out⟩
        case measure => simp [intOf]; omega
    · obtain rfl : k = n.ends.length := by omega
      have HS := Lib.hid hsr
      clear hsr
      go_wp2
      go_ret
      refine ⟨_, rfl, ?_, Since.after Hb0.out HS.out⟩
      have h9 := Ho.out
      rw [List.take_of_length_le (by rw [step_len]; exact Nat.le_refl _), ← Hsl.out, List.drop_length, List.append_nil] at h9
      exact Own.mono h9 Hb0.out.size
end Go.Proofs.YtlfehdikgbgloaaGreat
namespace Go.Proofs.YtlfehdikgbgloaaGreat
open Go.RowKit
set_option maxRecDepth 100000 in
set_option maxHeartbeats 8000000 in
theorem runOf_any (ma mb mc md ve vi vn : Value) (m : Mac) (n : Net) (r : Nat) (w : World) (hMa : MacIn w ma mb mc md m) (h : NetIn w ve vi vn n) (hAs : Asked m n) (hr : r ≤ 40) :
    Calls Tryz.prog 107 #[.agg #[.int .i64 m.degree, .int .i64 m.states, .int .i64 m.messages, ma, mb, mc, md], .agg #[ve, vi, vn], .int .i64 r] w fun e w' => ∃ u S, e = .returned u ∧ OwnII w' w.heap.size u (runL m n (r + 1)) S ∧ Below w.heap.size w w' := by
  have HAs := Lib.hid hAs
  clear hAs
  obtain ⟨w0, hw0⟩ : ∃ w0, w0 = ((w).alloc (.cells #[.int .i64 m.degree, .int .i64 m.states, .int .i64 m.messages, ma, mb, mc, md] 62)).alloc (.cells #[ve, vi, vn] 31) := ⟨_, rfl⟩
  have hb0 : Below w.heap.size w w0 := by rw [hw0]; exact (((Below.refl _ _).alloc (by simp <;> omega) _).alloc (by simp <;> omega) _)
  have H := Lib.hid (h.keep hb0)
  obtain ⟨h1, h2, h3⟩ := h.keep hb0
  obtain ⟨A, c, rfl, hlc, hm, hA⟩ := h1
  obtain ⟨A2, c2, rfl, _, hm2, _⟩ := h2
  obtain ⟨A3, c3, rfl, _, hm3, _⟩ := h3
  unfold maxLen at hm hm2 hm3
  have hkM := hMa.keep hb0
  have HM := Lib.hid hkM
  obtain ⟨M0, mz0, rfl, hlM0, hmM0, hMe0⟩ := id hkM.1
  unfold maxLen at hmM0
  have HMe0 := Lib.hid hMe0
  clear hMe0
  obtain ⟨M1, mz1, rfl, hlM1, hmM1, hMe1⟩ := id hkM.2.1
  unfold maxLen at hmM1
  have HMe1 := Lib.hid hMe1
  clear hMe1
  obtain ⟨M2, mz2, rfl, hlM2, hmM2, hMe2⟩ := id hkM.2.2.1
  unfold maxLen at hmM2
  have HMe2 := Lib.hid hMe2
  clear hMe2
  obtain ⟨M3, mz3, rfl, hlM3, hmM3, hMe3⟩ := id hkM.2.2.2
  unfold maxLen at hmM3
  have HMe3 := Lib.hid hMe3
  clear hMe3
  clear hkM hMa
  have p00 : ∀ W, Since w0 W → W.cell? ⟨w.heap.size, 0, none⟩ = some (.int .i64 m.degree) := have_cell (by rw [hw0]; simp)
  have p01 : ∀ W, Since w0 W → W.cell? ⟨w.heap.size, 1, none⟩ = some (.int .i64 m.states) := have_cell (by rw [hw0]; simp)
  have p02 : ∀ W, Since w0 W → W.cell? ⟨w.heap.size, 2, none⟩ = some (.int .i64 m.messages) := have_cell (by rw [hw0]; simp)
  have p03 : ∀ W, Since w0 W → W.cell? ⟨w.heap.size, 3, none⟩ = some (.slice M0 m.start.length mz0) := have_cell (by rw [hw0]; simp)
  have p04 : ∀ W, Since w0 W → W.cell? ⟨w.heap.size, 4, none⟩ = some (.slice M1 m.send.length mz1) := have_cell (by rw [hw0]; simp)
  have p05 : ∀ W, Since w0 W → W.cell? ⟨w.heap.size, 5, none⟩ = some (.slice M2 m.clauses.length mz2) := have_cell (by rw [hw0]; simp)
  have p06 : ∀ W, Since w0 W → W.cell? ⟨w.heap.size, 6, none⟩ = some (.slice M3 m.output.length mz3) := have_cell (by rw [hw0]; simp)
  have p10 : ∀ W, Since w0 W → W.cell? ⟨w.heap.size + 1, 0, none⟩ = some (.slice A n.ends.length c) := have_cell (by rw [hw0]; simp)
  have p11 : ∀ W, Since w0 W → W.cell? ⟨w.heap.size + 1, 1, none⟩ = some (.slice A2 n.ids.length c2) := have_cell (by rw [hw0]; simp)
  have p12 : ∀ W, Since w0 W → W.cell? ⟨w.heap.size + 1, 2, none⟩ = some (.slice A3 n.inputs.length c3) := have_cell (by rw [hw0]; simp)
  have Hb0 := Lib.hid hb0
  have Hw0 := Lib.hid hw0
  have HA := Lib.hid hA
  clear hA h
  clear hb0 hw0
  have hs0 : Since w0 w0 := since_refl _
  go_enter Tryz.func107, Tryz.ntmps107
  go_upto_region 1 with (fail)
  rw [← Hw0.out]
  go_wp2_with fail
  refine (startStates_any _ _ _ _ _ _ _ m n w0 HM.out H.out HAs.out).mono ?_
  rintro e w1 ⟨u, rfl, ho, hb1⟩
  obtain ⟨AU, cU, rfl, hUl, hUm, _⟩ := id ho.ints
  have Ho1 := Lib.hid (ownII_one w1 w0.heap.size _ _ ho hb1.size)
  have HS1 := Lib.hid ((hs0.trans hb1).after (since_alloc (.cells #[.slice AU (startB m n).length cU] 23) (since_refl w1)))
  clear ho hb1 hs0
  go_wp2
  go_loopw [7, 14] (fun u i wr => ∃ (k g cc : Nat) (S : List Nat), k ≤ r ∧ i = .int .i64 k ∧ u = .slice (some ⟨g, 0, none⟩) (k + 1) cc ∧ OwnII wr w0.heap.size (.slice (some ⟨g, 0, none⟩) (k + 1) cc) (runL m n (k + 1)) S ∧ Since w0 wr) (fun _ i _ => r - (intOf i).toNat)
  case atStart => exact ⟨0, _, _, _, Nat.zero_le _, rfl, rfl, Ho1.out, HS1.out⟩
  case round =>
    obtain ⟨k, g, cc, S, hk, rfl, rfl, ho, hsr⟩ := hrel
    have Ho := Lib.hid ho
    by_cases hlt : k < r
    · have hrow := runL_get (m := m) (n := n) (k := k + 1) (j := k) (by omega)
      obtain ⟨ur, T, hcr, -, hR, -, -, -⟩ := OwnRows.at_ ho hrow
      obtain ⟨AR, cR, rfl, hRl, hRm, _⟩ := id hR.1.ints
      unfold maxLen at hRm
      have hlr : (runA m n k).length = n.ends.length := (run_ok HAs.out k).1
      have hcl : k + 1 ≤ cc := by
        obtain ⟨vs, Ss, r1, _⟩ := ho
        rcases ownsRow_cases r1 with ⟨h0, _⟩ | ⟨g', c', h0, _, _, h3, _⟩
        · cases h0
        · rw [runL_len] at h0; cases h0; rw [runL_len] at h3; exact h3
      have hcm : cc ≤ 9223372036854775807 := by
        obtain ⟨vs, Ss, r1, _⟩ := ho
        rcases ownsRow_cases r1 with ⟨h0, _⟩ | ⟨g', c', h0, _, _, _, h4⟩
        · cases h0
        · rw [runL_len] at h0; cases h0; unfold maxLen at h4; omega
      have q1 := have_cell hcr
      have HR := Lib.hid (show ∀ X, Since wr X → IntS X (.slice AR (runA m n k).length cR) (runA m n k) from fun X hX => hR.1.ints.keep hX.below)
      have Hsr := Lib.hid hsr
      have t00 := lift_cell p00 hsr
      have t01 := lift_cell p01 hsr
      have t02 := lift_cell p02 hsr
      have t03 := lift_cell p03 hsr
      have t04 := lift_cell p04 hsr
      have t05 := lift_cell p05 hsr
      have t06 := lift_cell p06 hsr
      have t10 := lift_cell p10 hsr
      have t11 := lift_cell p11 hsr
      have t12 := lift_cell p12 hsr
      have hrr : Since wr wr := since_refl _
      have hkk : (k : Int) < (k : Int) + 1 := by omega
      have HP := Lib.hid (And.intro p00 (And.intro p01 (And.intro p02 (And.intro p03 (And.intro p04 (And.intro p05 (And.intro p06 (And.intro p10 (And.intro p11 p12)))))))))
      have Hlr := Lib.hid hlr
      clear p00 p01 p02 p03 p04 p05 p06 p10 p11 p12 hsr ho hrow hcr hR hlr
      go_upto_region 5 with (fail)
      refine wp_region_chain0 (w0 := wr) 9 [false, false, false, false, false, false, false, true, true] (by kernel_rfl) (by kernel_rfl) (hrr) ?_
      simp only [selF, selT, List.take_succ_cons, List.take_zero, List.drop_succ_cons, List.drop_zero]
      refine pflow_val (v := ?_) rfl ?_ ?_; rotate_left; (intro W hW; go_simp; with_reducible rfl)
      simp only [Act.put, List.setIfInBounds_toArray, List.set_cons_succ, List.set_cons_zero]
      refine pflow_val (v := ?_) rfl ?_ ?_; rotate_left; (intro W hW; go_simp; with_reducible rfl)
      simp only [Act.put, List.setIfInBounds_toArray, List.set_cons_succ, List.set_cons_zero]
      refine pflow_val (v := ?_) rfl ?_ ?_; rotate_left; (intro W hW; go_simp; with_reducible rfl)
      simp only [Act.put, List.setIfInBounds_toArray, List.set_cons_succ, List.set_cons_zero]
      refine pflow_val (v := ?_) rfl ?_ ?_; rotate_left; (intro W hW; go_simp; with_reducible rfl)
      simp only [Act.put, List.setIfInBounds_toArray, List.set_cons_succ, List.set_cons_zero]
      refine pflow_val (v := ?_) rfl ?_ ?_; rotate_left; (intro W hW; go_simp; with_reducible rfl)
      simp only [Act.put, List.setIfInBounds_toArray, List.set_cons_succ, List.set_cons_zero]
      refine pflow_val (v := ?_) rfl ?_ ?_; rotate_left; (intro W hW; go_simp; with_reducible rfl)
      simp only [Act.put, List.setIfInBounds_toArray, List.set_cons_succ, List.set_cons_zero]
      refine pflow_val (v := ?_) rfl ?_ ?_; rotate_left; (intro W hW; go_simp; with_reducible rfl)
      simp only [Act.put, List.setIfInBounds_toArray, List.set_cons_succ, List.set_cons_zero]
      obtain ⟨W, hWd⟩ : ∃ W, W = World.drew wr := ⟨_, rfl⟩
      rw [← hWd]
      have hW : Since wr W := by rw [hWd]; exact since_drew (hrr)
      refine Or.inl ⟨rfl, ?_⟩
      go_simp
      (with_reducible refine (stepStates_any _ _ _ _ _ _ _ _ m n (runA m n k) _ (HM.out.keep (Hsr.out.after (since_drew (since_refl _))).below) (H.out.keep (Hsr.out.after (since_drew (since_refl _))).below) (HR.out _ (since_drew (since_refl _))) HAs.out (run_ok HAs.out k)).mono ?_)
      rintro e W' ⟨un, rfl, hon, hbn⟩
      refine ⟨_, rfl, (since_drew (since_refl _)).trans hbn, ?_⟩
      replace hW := (since_drew (since_refl _)).trans hbn
      obtain ⟨AN, cN, rfl, _⟩ := id hon.ints
      have HdN : Hid (∀ j, (Value.slice AN (stepB m n (runA m n k)).length cN).ownBlock = some j → j ∉ S) := (fun j hj hS => by have h1 : wr.heap.size ≤ j := (World.ownsRow.lt hon j hj).1; have := (lawII.range Ho.out j hS).2; omega)
      have Hon := Lib.hid (Own.mono hon Hsr.out.below.size)
      clear hon hbn
      (try simp only [Act.put, List.setIfInBounds_toArray, List.set_cons_succ, List.set_cons_zero])
      (try have HWd := Lib.hid hWd)
      (try clear hWd)
      refine tflow_alloc (v := ?_) (ob := ?_) rfl ?_ hW ?_; rotate_left 2
      (go_simp; first | with_reducible rfl | (refine ⟨?_, ?_⟩ <;> with_reducible rfl))
      intro w8 hw8d hw8s
      replace hW := hw8s
      clear hw8s
      have Hon8 : Hid (Own w8 w0.heap.size (.slice AN (stepB m n (runA m n k)).length cN) (stepB m n (runA m n k))) := by show Own _ _ _ _; rw [hw8d]; exact Own.since Hon.out (since_alloc _ (since_refl _))
      have Hc8 : Hid (w8.cell? ⟨W'.heap.size, 0, none⟩ = some (.slice AN (stepB m n (runA m n k)).length cN)) := by show _ = _; rw [hw8d]; exact cell_new _ _ _
      clear hw8d
      (try simp only [Act.put, List.setIfInBounds_toArray, List.set_cons_succ, List.set_cons_zero])
      simp only [TFlow]
      have Ho8 := Lib.hid (lawII.keep Ho.out hW.below)
      have HS8 := Lib.hid (Hsr.out.after hW)
      have Hl8 : Hid ((runL m n (k + 1)).length + 1 ≤ 1000000) := by show _ ≤ _; rw [runL_len]; omega
      have hrl : (runL m n (k + 1)).length = k + 1 := runL_len m n (k + 1)
      have Hrl := Lib.hid hrl
      clear t00 t01 t02 t03 t04 t05 t06 t10 t11 t12 hrr hW q1 hkk hrl
      go_wp2_with (at_builtin; refine app_rowII rfl _ _ rfl rfl Ho8.out W'.heap.size rfl Hc8.out Hon8.out HdN.out Hl8.out HS8.out.below.size ?_; intro g9 cc9 w9 S9 ho9 hb9)
      have Ho9 := Lib.hid ho9
      have HS9 := Lib.hid (show Since w0 w9 from Below.trans HS8.out hb9)
      clear ho9 hb9
      rw [Hrl.out]
      go_wp2
      go_roundw
      case rel =>
        have h9 := Ho9.out
        rw [Hrl.out] at h9
        refine ⟨k + 1, g9, cc9, S9, by omega, by go_num, rfl, ?_, HS9.out⟩
        rw [runL_snoc m n (k + 1)]
        exact h9
      case measure => simp [intOf]; omega
    · obtain rfl : k = r := by omega
      have HS := Lib.hid hsr
      clear hsr
      go_wp2
      go_ret
      exact ⟨_, S, rfl, lawII.mono Ho.out Hb0.out.size, Since.after Hb0.out HS.out⟩
end Go.Proofs.YtlfehdikgbgloaaGreat
namespace Go.Proofs.YtlfehdikgbgloaaGreat
open Go.RowKit
theorem asIn_rounds {w : World} {a b c d f : Value} {x : ASt} (h : AsIn w a b c d f x) : IntS w a x.rounds := by
  obtain ⟨h1, _⟩ := h
  exact h1
theorem afMost_geL : ∀ (xs : List Int) (a : Int), a ≤ xs.foldl mx a ∧ ∀ r ∈ xs, r ≤ xs.foldl mx a
  | [], a => ⟨by simp, fun r hr => by simp at hr⟩
  | x :: xs, a => by
    obtain ⟨h1, h2⟩ := afMost_geL xs (mx a x)
    have hm : a ≤ mx a x ∧ x ≤ mx a x := by unfold mx; split <;> omega
    refine ⟨by rw [List.foldl_cons]; omega, fun r hr => ?_⟩
    rw [List.foldl_cons]
    rcases List.mem_cons.1 hr with rfl | hr
    · omega
    · exact h2 r hr
theorem afMost_ge (xs : List Int) (r : Int) (h : r ∈ xs) : r ≤ mostB xs := (afMost_geL xs 0).2 r h
set_option maxRecDepth 100000 in
set_option maxHeartbeats 8000000 in
theorem fnExactFirstAsyncFault_impl (ma mb mc md ve vi vn xa xb xc xd xf : Value) (m : Mac) (n : Net) (x : ASt) (w : World) (hMa : MacIn w ma mb mc md m) (h : NetIn w ve vi vn n) (hx : AsIn w xa xb xc xd xf x) (_ : szMac m ≤ 1048576) (hn : szNet n ≤ 1048576) (_ : szAs x ≤ 1048576) :
    Calls Tryz.prog 46 #[.agg #[.int .i64 m.degree, .int .i64 m.states, .int .i64 m.messages, ma, mb, mc, md], .agg #[ve, vi, vn], .agg #[xa, xb, xc, xd, xf]] w fun e w' => e = .returned (.tuple #[.int .i64 (fnExactFirstAsyncFault_r0 m n x), .bool (fnExactFirstAsyncFault_r1 m n x)]) ∧ Below w.heap.size w w' := by
  have Hil : Hid (n.ids.length ≤ 17592186044416) := by show _ ≤ _; unfold szNet at hn; omega
  clear hn
  obtain ⟨w0, hw0⟩ : ∃ w0, w0 = (((w).alloc (.cells #[.int .i64 m.degree, .int .i64 m.states, .int .i64 m.messages, ma, mb, mc, md] 62)).alloc (.cells #[ve, vi, vn] 31)).alloc (.cells #[xa, xb, xc, xd, xf] 66) := ⟨_, rfl⟩
  have hb0 : Below w.heap.size w w0 := by rw [hw0]; exact ((((Below.refl _ _).alloc (by simp <;> omega) _).alloc (by simp <;> omega) _).alloc (by simp <;> omega) _)
  have H := Lib.hid (h.keep hb0)
  obtain ⟨h1, h2, h3⟩ := h.keep hb0
  obtain ⟨A, c, rfl, hlc, hm, hA⟩ := h1
  obtain ⟨A2, c2, rfl, _, hm2, _⟩ := h2
  obtain ⟨A3, c3, rfl, _, hm3, _⟩ := h3
  unfold maxLen at hm hm2 hm3
  have hkM := hMa.keep hb0
  have HM := Lib.hid hkM
  obtain ⟨M0, mz0, rfl, hlM0, hmM0, hMe0⟩ := id hkM.1
  unfold maxLen at hmM0
  have HMe0 := Lib.hid hMe0
  clear hMe0
  obtain ⟨M1, mz1, rfl, hlM1, hmM1, hMe1⟩ := id hkM.2.1
  unfold maxLen at hmM1
  have HMe1 := Lib.hid hMe1
  clear hMe1
  obtain ⟨M2, mz2, rfl, hlM2, hmM2, hMe2⟩ := id hkM.2.2.1
  unfold maxLen at hmM2
  have HMe2 := Lib.hid hMe2
  clear hMe2
  obtain ⟨M3, mz3, rfl, hlM3, hmM3, hMe3⟩ := id hkM.2.2.2
  unfold maxLen at hmM3
  have HMe3 := Lib.hid hMe3
  clear hMe3
  clear hkM hMa
  have hkX := hx.keep hb0
  have HX := Lib.hid hkX
  obtain ⟨X0, xz0, rfl, hlX0, hmX0, hXe0⟩ := id hkX.1
  unfold maxLen at hmX0
  have HXe0 := Lib.hid hXe0
  clear hXe0
  obtain ⟨X1, xz1, rfl, hlX1, hmX1, hXe1⟩ := id hkX.2.1
  unfold maxLen at hmX1
  have HXe1 := Lib.hid hXe1
  clear hXe1
  obtain ⟨X2, xz2, rfl, hlX2, hmX2, hXe2⟩ := id hkX.2.2.1
  unfold maxLen at hmX2
  have HXe2 := Lib.hid hXe2
  clear hXe2
  obtain ⟨X3, xz3, rfl, hlX3, hmX3, hXe3⟩ := id hkX.2.2.2.1
  unfold maxLen at hmX3
  have HXe3 := Lib.hid hXe3
  clear hXe3
  obtain ⟨X4, xz4, rfl, hlX4, hmX4, hXe4⟩ := id hkX.2.2.2.2
  unfold maxLen at hmX4
  have HXe4 := Lib.hid hXe4
  clear hXe4
  clear hkX hx
  have p00 : ∀ W, Since w0 W → W.cell? ⟨w.heap.size, 0, none⟩ = some (.int .i64 m.degree) := have_cell (by rw [hw0]; simp [go_sem])
  have p01 : ∀ W, Since w0 W → W.cell? ⟨w.heap.size, 1, none⟩ = some (.int .i64 m.states) := have_cell (by rw [hw0]; simp [go_sem])
  have p02 : ∀ W, Since w0 W → W.cell? ⟨w.heap.size, 2, none⟩ = some (.int .i64 m.messages) := have_cell (by rw [hw0]; simp [go_sem])
  have p03 : ∀ W, Since w0 W → W.cell? ⟨w.heap.size, 3, none⟩ = some (.slice M0 m.start.length mz0) := have_cell (by rw [hw0]; simp [go_sem])
  have p04 : ∀ W, Since w0 W → W.cell? ⟨w.heap.size, 4, none⟩ = some (.slice M1 m.send.length mz1) := have_cell (by rw [hw0]; simp [go_sem])
  have p05 : ∀ W, Since w0 W → W.cell? ⟨w.heap.size, 5, none⟩ = some (.slice M2 m.clauses.length mz2) := have_cell (by rw [hw0]; simp [go_sem])
  have p06 : ∀ W, Since w0 W → W.cell? ⟨w.heap.size, 6, none⟩ = some (.slice M3 m.output.length mz3) := have_cell (by rw [hw0]; simp [go_sem])
  have p10 : ∀ W, Since w0 W → W.cell? ⟨w.heap.size + 1, 0, none⟩ = some (.slice A n.ends.length c) := have_cell (by rw [hw0]; simp [go_sem])
  have p11 : ∀ W, Since w0 W → W.cell? ⟨w.heap.size + 1, 1, none⟩ = some (.slice A2 n.ids.length c2) := have_cell (by rw [hw0]; simp [go_sem])
  have p12 : ∀ W, Since w0 W → W.cell? ⟨w.heap.size + 1, 2, none⟩ = some (.slice A3 n.inputs.length c3) := have_cell (by rw [hw0]; simp [go_sem])
  have p20 : ∀ W, Since w0 W → W.cell? ⟨w.heap.size + 1 + 1, 0, none⟩ = some (.slice X0 x.rounds.length xz0) := have_cell (by rw [hw0]; simp [go_sem])
  have p21 : ∀ W, Since w0 W → W.cell? ⟨w.heap.size + 1 + 1, 1, none⟩ = some (.slice X1 x.before.length xz1) := have_cell (by rw [hw0]; simp [go_sem])
  have p22 : ∀ W, Since w0 W → W.cell? ⟨w.heap.size + 1 + 1, 2, none⟩ = some (.slice X2 x.now.length xz2) := have_cell (by rw [hw0]; simp [go_sem])
  have p23 : ∀ W, Since w0 W → W.cell? ⟨w.heap.size + 1 + 1, 3, none⟩ = some (.slice X3 x.slots.length xz3) := have_cell (by rw [hw0]; simp [go_sem])
  have p24 : ∀ W, Since w0 W → W.cell? ⟨w.heap.size + 1 + 1, 4, none⟩ = some (.slice X4 x.flight.length xz4) := have_cell (by rw [hw0]; simp [go_sem])
  have Hb0 := Lib.hid hb0
  have Hw0 := Lib.hid hw0
  have HA := Lib.hid hA
  clear hA h
  clear hb0 hw0
  have hs0 : Since w0 w0 := since_refl _
  go_enter Tryz.func46, Tryz.ntmps46
  go_upto_region 1 with (fail)
  rw [← Hw0.out]
  go_wp2_with fail
  refine (implIsAsync_any _ _ _ _ _ _ _ _ _ _ _ _ m n x w0 HM.out H.out HX.out Hil.out).mono ?_
  rintro e w1 ⟨rfl, hb1⟩
  have hs1 : Since w0 w1 := hb1
  clear hb1 hs0
  cases hg : syGoodB m n x
  · have Hr := Lib.hid (ff_false hg)
    have HS := Lib.hid hs1
    clear hg hs1
    go_wp2
    go_ret2
    exact ⟨congrArg Ending.returned Hr.out, Since.after Hb0.out HS.out⟩
  · have Hg := Lib.hid hg
    have G := Lib.hid (good3 hg)
    clear hg
    obtain ⟨M, hM⟩ : ∃ M : Nat, mostB x.rounds = (M : Int) := ⟨(mostB x.rounds).toNat, by have := (mostB_bd (c := 40) x.rounds 0 (by omega) (by omega) G.out.rb).1; unfold mostB; omega⟩
    have hM40 : M ≤ 40 := by
      have := (mostB_bd (c := 40) x.rounds 0 (by omega) (by omega) G.out.rb).2
      have e : mostB x.rounds = x.rounds.foldl mx 0 := rfl
      rw [← e, hM] at this
      omega
    have HMr : Hid (∀ r ∈ x.rounds, r ≤ (M : Int)) := fun r hr => by rw [← hM]; exact afMost_ge x.rounds r hr
    have HM0 := Lib.hid hM
    have hlr : 1 ≤ x.rounds.length := by have := G.out.rl; have := (netOk_len G.out.asked.net).1; omega
    have Hs1 := Lib.hid hs1
    have hz1 : Since w1 w1 := since_refl _
    have t00 := lift_cell p00 hs1
    have t01 := lift_cell p01 hs1
    have t02 := lift_cell p02 hs1
    have t03 := lift_cell p03 hs1
    have t04 := lift_cell p04 hs1
    have t05 := lift_cell p05 hs1
    have t06 := lift_cell p06 hs1
    have t10 := lift_cell p10 hs1
    have t11 := lift_cell p11 hs1
    have t12 := lift_cell p12 hs1
    have s20 := lift_cell p20 hs1
    have s22 := lift_cell p22 hs1
    clear hM hs1
    go_upto_region 3 with (fail)
    refine wp_region_chain (w0 := w1) 6 [false, false, false, false, true, true] (by kernel_rfl) (by kernel_rfl) (hz1) ?_
    simp only [selF, selT, List.take_succ_cons, List.take_zero, List.drop_succ_cons, List.drop_zero]
    refine pflow_val (v := ?_) rfl ?_ ?_; rotate_left; (intro W hW; go_simp; with_reducible rfl)
    simp only [Act.put, List.setIfInBounds_toArray, List.set_cons_succ, List.set_cons_zero]
    refine pflow_val (v := ?_) rfl ?_ ?_; rotate_left; (intro W hW; go_simp; with_reducible rfl)
    simp only [Act.put, List.setIfInBounds_toArray, List.set_cons_succ, List.set_cons_zero]
    refine pflow_val (v := ?_) rfl ?_ ?_; rotate_left; (intro W hW; go_simp; with_reducible rfl)
    simp only [Act.put, List.setIfInBounds_toArray, List.set_cons_succ, List.set_cons_zero]
    refine pflow_val (v := ?_) rfl ?_ ?_; rotate_left; (intro W hW; go_simp; with_reducible rfl)
    simp only [Act.put, List.setIfInBounds_toArray, List.set_cons_succ, List.set_cons_zero]
    intro W hW
    refine Or.inl ⟨rfl, ?_⟩
    go_simp
    (with_reducible refine (maxI_any _ x.rounds W (asIn_rounds (HX.out.keep (Hs1.out.after hW).below)) hlr (fun r hr => (G.out.rb r hr).1)).mono ?_)
    rintro e W' ⟨rfl, rfl⟩
    refine ⟨_, rfl, hW, ?_⟩
    replace hW := hW
    rw [HM0.out]
    (try simp only [Act.put, List.setIfInBounds_toArray, List.set_cons_succ, List.set_cons_zero])
    refine Or.inl ⟨rfl, ?_⟩
    go_simp
    (with_reducible refine (runOf_any _ _ _ _ _ _ _ m n M _ (HM.out.keep (Hs1.out.after hW).below) (H.out.keep (Hs1.out.after hW).below) G.out.asked hM40).mono ?_)
    rintro e W' ⟨u, S, rfl, ho, hbr⟩
    refine ⟨_, rfl, hW.trans hbr, ?_⟩
    replace hW := hW.trans hbr
    skip
    (try simp only [Act.put, List.setIfInBounds_toArray, List.set_cons_succ, List.set_cons_zero])
    simp only [TFlow]
    obtain ⟨AR, cR, rfl, hRl, hRm, _⟩ := id (OwnII.read ho)
    have Hss := Lib.hid (OwnII.read ho)
    have hrl : (runL m n (M + 1)).length = M + 1 := by rw [runL_len]
    rw [hrl] at hRl ⊢
    unfold maxLen at hRm
    have hs2 : Since w0 W' := Hs1.out.after hW
    have hz2 : Since W' W' := since_refl _
    have t20 := lift_cell p20 hs2
    have t22 := lift_cell p22 hs2
    clear hW hbr ho hrl hz1 t00 t01 t02 t03 t04 t05 t06 t10 t11 t12 s20 s22 p00 p01 p02 p03 p04 p05 p06 p10 p11 p12 p20 p21 p22 p23 p24
    go_wp2
    go_loopw [25] (fun i wr => ∃ k : Nat, k ≤ x.rounds.length ∧ i = .int .i64 k ∧ (List.range k).any (badA m n x) = false ∧ Since W' wr) (fun i _ => x.rounds.length - (intOf i).toNat)
    case atStart => exact ⟨0, Nat.zero_le _, rfl, rfl, hz2⟩
    case round =>
      obtain ⟨k, hk, rfl, hal, hsr⟩ := hrel
      have Hal := Lib.hid hal
      clear hal hz2
      by_cases hlt : k < x.rounds.length
      · obtain ⟨r, hrx⟩ := getx x.rounds k hlt
        obtain ⟨r1, r2⟩ := G.out.rb r (List.mem_of_getElem? hrx)
        obtain ⟨rN, rfl⟩ := Int.eq_ofNat_of_zero_le r1
        have hkn : k < n.ends.length := by have := G.out.rl; omega
        obtain ⟨nw, hnw⟩ := getx x.now k (by have := G.out.nl; omega)
        have hrow := runL_get (m := m) (n := n) (k := M + 1) (j := rN) (by have := HMr.out _ (List.mem_of_getElem? hrx); omega)
        have hro := run_ok G.out.asked rN
        obtain ⟨y, hy⟩ := getx (runA m n rN) k (by rw [hro.1]; exact hkn)
        obtain ⟨b1, off1, hA1, hc1⟩ := HXe0.out k _ hrx
        obtain ⟨b2, off2, hA2, hc2⟩ := HXe2.out k _ hnw
        obtain ⟨b3, off3, b4, off4, z4, hA3, hc3, hz3, hz4, hc4⟩ := tab_at Hss.out hrow hy
        subst hA1 hA2 hA3
        have q1 := have_cell (hs2.cell hc1)
        have q2 := have_cell (hs2.cell hc2)
        have q3 := have_cell hc3
        have q4 := have_cell hc4
        have hkr : k < (runA m n rN).length := lt_of_get hy
        have hkw : k < x.now.length := lt_of_get hnw
        have hr41 : (rN : Int) < (M : Int) + 1 := by have := HMr.out _ (List.mem_of_getElem? hrx); omega
        have Hb := Lib.hid (show badA m n x k = (nw != y) by unfold badA; rw [getD_of hnw, getD_of hrx, Int.toNat_natCast, getD_of hy])
        clear hrx r1 r2 hnw hrow hro hy hc1 hc2 hc3 hc4
        go_upto_region 7 with (fail)
        refine wp_region_flow 13 (Since W') (by kernel_rfl) (by kernel_rfl) (by simp) (since_drew hsr) ?_
        simp only [List.take_succ_cons, List.take_zero, List.drop_succ_cons, List.drop_zero]
        refine flow_val (v := ?_) rfl ?_ ?_; rotate_left; (intro W hW; go_simp; with_reducible rfl)
        simp only [Act.put, List.setIfInBounds_toArray, List.set_cons_succ, List.set_cons_zero]
        refine flow_val (v := ?_) rfl ?_ ?_; rotate_left; (intro W hW; go_simp; with_reducible rfl)
        simp only [Act.put, List.setIfInBounds_toArray, List.set_cons_succ, List.set_cons_zero]
        refine flow_val (v := ?_) rfl ?_ ?_; rotate_left; (intro W hW; go_simp; with_reducible rfl)
        simp only [Act.put, List.setIfInBounds_toArray, List.set_cons_succ, List.set_cons_zero]
        refine flow_val (v := ?_) rfl ?_ ?_; rotate_left; (intro W hW; go_simp; with_reducible rfl)
        simp only [Act.put, List.setIfInBounds_toArray, List.set_cons_succ, List.set_cons_zero]
        refine flow_val (v := ?_) rfl ?_ ?_; rotate_left; (intro W hW; go_simp; with_reducible rfl)
        simp only [Act.put, List.setIfInBounds_toArray, List.set_cons_succ, List.set_cons_zero]
        refine flow_val (v := ?_) rfl ?_ ?_; rotate_left; (intro W hW; go_simp; with_reducible rfl)
        simp only [Act.put, List.setIfInBounds_toArray, List.set_cons_succ, List.set_cons_zero]
        refine flow_val (v := ?_) rfl ?_ ?_; rotate_left; (intro W hW; go_simp; with_reducible rfl)
        simp only [Act.put, List.setIfInBounds_toArray, List.set_cons_succ, List.set_cons_zero]
        refine flow_val (v := ?_) rfl ?_ ?_; rotate_left; (intro W hW; go_simp; with_reducible rfl)
        simp only [Act.put, List.setIfInBounds_toArray, List.set_cons_succ, List.set_cons_zero]
        refine flow_val (v := ?_) rfl ?_ ?_; rotate_left; (intro W hW; go_simp; with_reducible rfl)
        simp only [Act.put, List.setIfInBounds_toArray, List.set_cons_succ, List.set_cons_zero]
        refine flow_val (v := ?_) rfl ?_ ?_; rotate_left; (intro W hW; go_simp; with_reducible rfl)
        simp only [Act.put, List.setIfInBounds_toArray, List.set_cons_succ, List.set_cons_zero]
        refine flow_val (v := ?_) rfl ?_ ?_; rotate_left; (intro W hW; go_simp; with_reducible rfl)
        simp only [Act.put, List.setIfInBounds_toArray, List.set_cons_succ, List.set_cons_zero]
        refine flow_val (v := ?_) rfl ?_ ?_; rotate_left; (intro W hW; go_simp; with_reducible rfl)
        simp only [Act.put, List.setIfInBounds_toArray, List.set_cons_succ, List.set_cons_zero]
        refine flow_val (v := ?_) rfl ?_ ?_; rotate_left; (intro W hW; go_simp; with_reducible rfl)
        simp only [Act.put, List.setIfInBounds_toArray, List.set_cons_succ, List.set_cons_zero]
        intro W hW
        cases hne : (nw != y)
        · have Hn := Lib.hid (any_range_snoc Hal.out (by rw [Hb.out]; exact hne))
          clear hne hsr q1 q2 q3 q4
          go_wp2
          go_roundw
          case rel => exact ⟨k + 1, by omega, by go_num, Hn.out, hW⟩
          case measure => simp [intOf]; omega
        · have Hr := Lib.hid (ff_found Hg.out hkn (by rw [Hb.out]; exact hne) Hal.out)
          have HS := Lib.hid (hs2.after hW)
          clear hne hsr hW hs2 q1 q2 q3 q4
          go_wp2
          go_ret2
          exact ⟨congrArg Ending.returned Hr.out, Since.after Hb0.out HS.out⟩
      · obtain rfl : k = x.rounds.length := by omega
        have Hr := Lib.hid (ff_none Hg.out (by have := Hal.out; rwa [G.out.rl] at this))
        have HS := Lib.hid (hs2.after hsr)
        clear hsr hs2
        go_wp2
        go_ret2
        exact ⟨congrArg Ending.returned Hr.out, Since.after Hb0.out HS.out⟩
end Go.Proofs.YtlfehdikgbgloaaGreat
