/- Parts of the proof: walks of functions and plain laws. -/
import Derived.Test.YtfkmkpamdlhbgaaGreatP8
import Derived.Test.YtfkmkpamdlhbgaaGreatP14
import Derived.Test.YtfkmkpamdlhbgaaGreatP10
import Derived.Test.YtfkmkpamdlhbgaaGreatP6
import Derived.Test.YtfkmkpamdlhbgaaGreatP13
import Derived.Maps.OwnOps
import Derived.Maps.RangeWalk
import Derived.WalkArith
import Derived.Test.YtfkmkpamdlhbgaaGreatP12
namespace Go.Proofs.YtfkmkpamdlhbgaaGreat
open Go.RowKit
theorem Own.onlyq {W W' : World} {base g : Nat} {u : Value} {xs : List Int} (h : Own W base u xs) (ho : Only [g] W W') (hd : u.ownBlock ≠ some g) : Own W' base u xs :=
  ownsRow_stable h fun j hj => ho.block j (World.ownsRow.lt h j (by simpa using hj)).2 (fun hs => hd (by simp at hs; subst hs; simpa using hj))
set_option maxRecDepth 100000 in
set_option maxHeartbeats 16000000 in
theorem distancesFrom_any (ve vi vn : Value) (n : Net) (v : Nat) (w : World) (h : NetIn w ve vi vn n) (hn : netOk n = true) (hv : v < n.ends.length) :
    Calls Tryz.prog 96 #[.agg #[ve, vi, vn], .int .i64 v] w fun e w' => ∃ u, e = .returned u ∧ Own w' w.heap.size u (distB n v) ∧ Below w.heap.size w w' := by
  have hnl := netOk_len hn
  have Hn := Lib.hid hn
  obtain ⟨w0, hw0⟩ : ∃ w0, w0 = (w).alloc (.cells #[ve, vi, vn] 27) := ⟨_, rfl⟩
  have hb0 : Below w.heap.size w w0 := by rw [hw0]; exact ((Below.refl _ _).alloc (by simp) _)
  have H := Lib.hid (h.keep hb0)
  obtain ⟨h1, h2, h3⟩ := h.keep hb0
  obtain ⟨A, c, rfl, hlc, hm, hA⟩ := h1
  obtain ⟨A2, c2, rfl, _, hm2, _⟩ := h2
  obtain ⟨A3, c3, rfl, _, hm3, _⟩ := h3
  unfold maxLen at hm hm2 hm3
  have p00 : ∀ W, Since w0 W → W.cell? ⟨w.heap.size, 0, none⟩ = some (.slice A n.ends.length c) := have_cell (by rw [hw0]; simp)
  have p01 : ∀ W, Since w0 W → W.cell? ⟨w.heap.size, 1, none⟩ = some (.slice A2 n.ids.length c2) := have_cell (by rw [hw0]; simp)
  have p02 : ∀ W, Since w0 W → W.cell? ⟨w.heap.size, 2, none⟩ = some (.slice A3 n.inputs.length c3) := have_cell (by rw [hw0]; simp)
  have Hb0 := Lib.hid hb0
  have Hw0 := Lib.hid hw0
  have HA := Lib.hid hA
  clear hA h
  clear hb0 hw0
  obtain ⟨R, hR⟩ : ∃ R, R = distB n v := ⟨_, rfl⟩
  have HR := Lib.hid hR
  rw [← hR]
  clear hn hR
  go_enter Tryz.func96, Tryz.ntmps96
  go_upto_region 1 with (fail)
  rw [← Hw0.out]
  go_wp2_with fail
  refine (repeat1_any w0.heap.size 1 (-1) n.ends.length _ hnl.1 (by omega) (by simp)).mono ?_
  rintro e w1 ⟨u1, rfl, ho1, hb1⟩
  rcases ho1.cases with ⟨-, e1⟩ | ⟨g, c1, rfl, hg1, hg2⟩
  · have := congrArg List.length e1; rw [List.length_replicate, List.length_nil] at this; omega
  rw [List.length_replicate] at ho1 ⊢
  have Hs1 : Hid (Since w0 w1) := Since.after (since_alloc _ (since_refl _)) hb1
  have Hgw : Hid (w0.heap.size ≤ g) := by show _ ≤ _; have := hg1; simp at this; omega
  have Ho1 : Hid (Own w1 w0.heap.size (.slice (some ⟨g, 0, none⟩) n.ends.length c1) (List.replicate n.ends.length (-1))) := ho1.mono (by simp)
  have cz := Ho1.out.cell (getD_at (show v < (List.replicate n.ends.length (-1 : Int)).length by simpa using hv))
  have fz := Ho1.out.free v
  obtain ⟨w3, hw3⟩ : ∃ w3, w3 = w1.setCell ⟨g, v, none⟩ (.int .i64 0) := ⟨_, rfl⟩
  have e3 : w3.heap.size = w1.heap.size := by rw [hw3]; simp
  have Ho3 : Hid (Own w3 w0.heap.size (.slice (some ⟨g, 0, none⟩) n.ends.length c1) (bfsStart n v).1) := by rw [hw3]; exact Ho1.out.set (k := v) 0
  have Hs3 : Hid (Since w0 w3) := by rw [hw3]; exact Below.setCell Hs1.out Hgw.out _
  obtain ⟨g2, hg2'⟩ : ∃ g2, g2 = w1.heap.size := ⟨_, rfl⟩
  obtain ⟨w4, hw4⟩ : ∃ w4, w4 = w3.alloc (.cells #[.int .i64 v] 3) := ⟨_, rfl⟩
  have Ho4 : Hid (Own w4 w0.heap.size (.slice (some ⟨g, 0, none⟩) n.ends.length c1) (bfsStart n v).1) := by rw [hw4]; exact Ho3.out.since (since_alloc _ (since_refl _))
  have Hq4 : Hid (QA w4 w0.heap.size g2 0 1 ((bfsStart n v).2.drop 0)) := by
    rw [hw4, hg2', ← e3]
    exact QA.one w3 _ v Hs3.out.below.size
  have Hs4 : Hid (Since w0 w4) := by rw [hw4]; exact since_alloc _ Hs3.out
  have hgg : g2 ≠ g := by have := (World.ownsRow.lt Ho3.out g rfl).2; omega
  have Hw3 := Lib.hid hw3
  have Hw4 := Lib.hid hw4
  have Hg2 := Lib.hid hg2'
  clear hw3 hw4 hg2' e3 ho1 hb1 hg1 hg2
  go_upto_region 4 with (fail)
  rw [← Hw3.out, ← Hg2.out, ← Hw4.out]
  clear cz fz
  go_wp2
  go_loopg [6] (n.ends.length + 1) (fun f u wr => ∃ (k : Nat) (st : List Int × List Int) (gu off cu : Nat), u = .slice (some ⟨gu, off, none⟩) (st.2.drop k).length cu ∧ gu ≠ g ∧ BI n.ends.length st ∧ bfs n f st k = R ∧ n.ends.length + 1 ≤ f + k ∧ k ≤ st.2.length ∧ Own wr w0.heap.size (.slice (some ⟨g, 0, none⟩) n.ends.length c1) st.1 ∧ QA wr w0.heap.size gu off cu (st.2.drop k) ∧ Since w0 wr)
  case atStart => exact ⟨0, bfsStart n v, g2, 0, 1, rfl, hgg, BI.start hv, HR.out.symm, by omega, Nat.zero_le _, Ho4.out, Hq4.out, Hs4.out⟩
  case round =>
    obtain ⟨k, st, gu, off, cu, rfl, hgu, hbi, hbr, hf, hk, ho, hq, hs⟩ := hrel
    have HBI := Lib.hid hbi
    have Hbr := Lib.hid hbr
    have Ho := Lib.hid ho
    have Hq := Lib.hid hq
    have Hs := Lib.hid hs
    have hbd := hbi.bd
    clear hbi hbr ho hq hs hgg
    by_cases hlt : k < st.2.length
    · obtain ⟨f, rfl⟩ : ∃ f', gk = f' + 1 := ⟨gk - 1, by omega⟩
      obtain ⟨x, hx⟩ := getx st.2 k hlt
      have hxin := HBI.out.walk x (List.mem_of_getElem? hx)
      obtain ⟨c', rfl⟩ := Int.eq_ofNat_of_zero_le hxin.1
      have hc : c' < n.ends.length := by omega
      have hdr : st.2.drop k = (c' : Int) :: st.2.drop (k + 1) := by
        rw [List.drop_eq_getElem_cons hlt]
        congr 1
        exact (List.getElem?_eq_some_iff.1 hx).2
      have Hq2 : Hid (QA wr w0.heap.size gu off cu ((c' : Int) :: st.2.drop (k + 1))) := by rw [← hdr]; exact Hq.out
      obtain ⟨ql, hql⟩ : ∃ ql, ql = (st.2.drop (k + 1)).length := ⟨_, rfl⟩
      have e0 : (st.2.drop k).length = ql + 1 := by rw [hdr, hql]; rfl
      rw [e0]
      have cx := Hq2.out.cell (j := 0) rfl
      rw [Nat.add_zero] at cx
      have hcu : ql + 1 ≤ cu := by have := Hq2.out.2.1; rw [List.length_cons, ← hql] at this; exact this
      have Hxd : Hid (st.2.getD k 0 = (c' : Int)) := by show _ = _; rw [List.getD_eq_getElem?_getD, hx]; rfl
      have Hx := Lib.hid hx
      have Hql := Lib.hid hql
      obtain ⟨of2, eo, hq2⟩ : ∃ of2 : Nat, (if cu = 1 then some (⟨gu, off, none⟩ : Addr) else some ⟨gu, off + 1, none⟩) = some ⟨gu, of2, none⟩ ∧ QA wr w0.heap.size gu of2 (cu - 1) (st.2.drop (k + 1)) := by
        by_cases h1 : cu = 1
        · refine ⟨off, by rw [if_pos h1], ?_⟩
          have hz : st.2.drop (k + 1) = [] := List.eq_nil_of_length_eq_zero (by omega)
          rw [hz, h1]
          exact Hq2.out.nil
        · exact ⟨off + 1, by rw [if_neg h1], Hq2.out.tail⟩
      have Hq3 := Lib.hid hq2
      obtain ⟨es, hes⟩ := getx n.ends c' hc
      obtain ⟨hes6, hesin⟩ := netOk_row Hn.out hes
      have Hes := Lib.hid hes
      have Hesin := Lib.hid hesin
      obtain ⟨see, hsee⟩ : ∃ s, s = bsee n c' := ⟨_, rfl⟩
      have Hse2 : Hid (es.map (fun e => e.1) = see) := by show _ = _; rw [hsee, bsee, Int.toNat_natCast, List.getD_eq_getElem?_getD, hes]; rfl
      have Hsee := Lib.hid hsee
      have Hfw : Hid (∀ j, ∃ ys, ((see.take j).foldl (bstep c') st).2 = st.2 ++ ys) := fun j => fold_walk _ _ _
      obtain ⟨b, offr, cr, ur, hA1, hkr, hc1, hrow⟩ := row_at H.out.es hes
      cases hA1
      obtain ⟨A1, z1, rfl, hz1, hz2, hA1⟩ := hrow
      unfold maxLen at hz2
      have HA1 := Lib.hid hA1
      have r1 := lift_cell (have_cell hc1) Hs.out
      have q0 := p00 wr Hs.out
      have q5 := r1 wr (since_refl _)
      clear hx hdr hql e0 Hq hq2 hes hesin hsee hc1 hA1
      go_upto_region 7 with (fail)
      (try rw [eo])
      clear cx eo
      clear hcu
      go_wp2
      go_loopw [6, 34] (fun u i wr => ∃ (j gv ov cv : Nat) (st' : List Int × List Int), j ≤ es.length ∧ i = .int .i64 j ∧ st' = (see.take j).foldl (bstep c') st ∧ u = .slice (some ⟨gv, ov, none⟩) (st'.2.drop (k + 1)).length cv ∧ gv ≠ g ∧ BI n.ends.length st' ∧ Own wr w0.heap.size (.slice (some ⟨g, 0, none⟩) n.ends.length c1) st'.1 ∧ QA wr w0.heap.size gv ov cv (st'.2.drop (k + 1)) ∧ Since w0 wr) (fun _ i _ => es.length - (intOf i).toNat)
      case atStart => exact ⟨0, gu, of2, cu - 1, st, Nat.zero_le _, rfl, rfl, by rw [Hql.out], hgu, HBI.out, Ho.out, Hq3.out, Hs.out⟩
      case round =>
        obtain ⟨j, gv, ov, cv, st', hj, rfl, hst', rfl, hgv, hbi', ho', hq', hs'⟩ := hrel
        have HBI' := Lib.hid hbi'
        have Ho' := Lib.hid ho'
        have Hq' := Lib.hid hq'
        have Hs' := Lib.hid hs'
        have Hst' := Lib.hid hst'
        have hbd' := hbi'.bd
        clear hst' hbi' ho' hq' hs' hgu
        by_cases hlj : j < es.length
        · obtain ⟨⟨x1, x2⟩, hx⟩ := getx es j hlj
          obtain ⟨b1, off1, rfl, hd1, hd2⟩ := HA1.out j _ hx
          obtain ⟨i1, i2⟩ := Hesin.out _ (List.mem_of_getElem? hx)
          simp only at i1 i2
          obtain ⟨d, rfl⟩ := Int.eq_ofNat_of_zero_le i1
          have hd : d < n.ends.length := by omega
          have hy : see[j]? = some (d : Int) := by rw [← Hse2.out, List.getElem?_map, hx]; rfl
          have hl1 : st'.1.length = n.ends.length := HBI'.out.len
          have t1 := have_cell hd1 wr Hs'.out
          have t2 := have_cell hd2 wr Hs'.out
          obtain ⟨w8, hw8⟩ : ∃ w8, w8 = wr.alloc (.cells #[.int .i64 d, .int .i64 x2] 62) := ⟨_, rfl⟩
          obtain ⟨be, hbe⟩ : ∃ be, be = wr.heap.size := ⟨_, rfl⟩
          have Ho8 : Hid (Own w8 w0.heap.size (.slice (some ⟨g, 0, none⟩) n.ends.length c1) st'.1) := by rw [hw8]; exact Ho'.out.since (since_alloc _ (since_refl _))
          have Hq8 : Hid (QA w8 w0.heap.size gv ov cv (st'.2.drop (k + 1))) := by rw [hw8]; exact Hq'.out.since (since_alloc _ (since_refl _))
          have Hs8 : Hid (Since w0 w8) := by rw [hw8]; exact since_alloc _ Hs'.out
          have d0 : ∀ W, Since w8 W → W.cell? ⟨be, 0, none⟩ = some (.int .i64 d) := have_cell (by rw [hw8, hbe]; simp)
          have dd := have_cell (Ho8.out.cell (getD_at (show d < st'.1.length by omega)))
          have dc := have_cell (Ho8.out.cell (getD_at (show c' < st'.1.length by omega)))
          obtain ⟨z, hz⟩ : ∃ z, z = st'.1.getD d 0 := ⟨_, rfl⟩
          obtain ⟨q, hq⟩ : ∃ q, q = st'.1.getD c' 0 := ⟨_, rfl⟩
          rw [← hz] at dd
          rw [← hq] at dc
          have hqb : -1 ≤ q ∧ q < st'.2.length := by rw [hq]; exact HBI'.out.val _ (List.mem_of_getElem? (getD_at (show c' < st'.1.length by omega)))
          have cd := dd w8 (since_refl _)
          have ce := d0 w8 (since_refl _)
          have Hz := Lib.hid hz
          have Hqd := Lib.hid hq
          have Hnx : Hid ((see.take (j + 1)).foldl (bstep c') st = bstep c' st' d) := by show _ = _; rw [fold_snoc hy, ← Hst'.out]
          have Hl1 := Lib.hid hl1
          have Hw8 := Lib.hid hw8
          have Hbe := Lib.hid hbe
          have m3 : IntKind.i64.wrap ((j : Int) + 1) = (j : Int) + 1 := wr64 _ (by omega) (by omega)
          clear hz hq hy hx hl1 hw8 hbe hd1 hd2 i1
          go_upto_region 10 with (fail)
          rw [← Hw8.out, ← Hbe.out]
          clear t1 t2
          by_cases hneg : z < 0
          · have m4 : IntKind.i64.wrap (q + 1) = q + 1 := wr64 _ (by omega) (by omega)
            have Hnew : Hid (bstep c' st' d = (st'.1.set d (q + 1), st'.2 ++ [(d : Int)])) := by show _ = _; unfold bstep; rw [Int.toNat_natCast, Int.toNat_natCast, ← Hz.out, if_pos hneg, ← Hqd.out]
            have HBn : Hid (BI n.ends.length (bstep c' st' d)) := HBI'.out.step (by omega) (by omega)
            obtain ⟨ys, hys⟩ := Hfw.out j
            have hkl : k + 1 ≤ st'.2.length := by rw [Hst'.out, hys, List.length_append]; omega
            have Hdrop : Hid ((st'.2 ++ [(d : Int)]).drop (k + 1) = st'.2.drop (k + 1) ++ [(d : Int)]) := List.drop_append_of_le_length hkl
            have Hlen : Hid ((st'.2.drop (k + 1)).length + 1 ≤ 1000000) := by show _ ≤ _; rw [List.length_drop]; omega
            have Hgv := Lib.hid hgv
            clear hys hkl
            go_upto_region 11 with (fail)
            refine wp_region_flow 9 (Since w8) (by kernel_rfl) (by kernel_rfl) (by simp) (since_drew (since_refl _)) ?_
            simp only [List.take_succ_cons, List.take_zero, List.drop_succ_cons, List.drop_zero]
            refine flow_val (v := ?_) rfl ?_ ?_; rotate_left; (intro W hW; go_simp; with_reducible rfl)
            simp only [Act.put, List.setIfInBounds_toArray, List.set_cons_succ, List.set_cons_zero]
            refine flow_val (v := ?_) rfl ?_ ?_; rotate_left; (intro W hW; go_simp; with_reducible rfl)
            simp only [Act.put, List.setIfInBounds_toArray, List.set_cons_succ, List.set_cons_zero]
            refine flow_val (v := ?_) rfl ?_ ?_; rotate_left; (intro W hW; go_simp; with_reducible rfl)
            simp only [Act.put, List.setIfInBounds_toArray, List.set_cons_succ, List.set_cons_zero]
            refine flow_val (v := ?_) rfl ?_ ?_; rotate_left; (intro W hW; go_simp; with_reducible rfl)
            simp only [Act.put, List.setIfInBounds_toArray, List.set_cons_succ, List.set_cons_zero]
            refine flow_val (v := ?_) rfl ?_ ?_; rotate_left; (intro W hW; go_simp; with_reducible rfl)
            simp only [Act.put, List.setIfInBounds_toArray, List.set_cons_succ, List.set_cons_zero]
            refine flow_val (v := ?_) rfl ?_ ?_; rotate_left; (intro W hW; go_simp; with_reducible rfl)
            simp only [Act.put, List.setIfInBounds_toArray, List.set_cons_succ, List.set_cons_zero]
            refine flow_val (v := ?_) rfl ?_ ?_; rotate_left; (intro W hW; go_simp; with_reducible rfl)
            simp only [Act.put, List.setIfInBounds_toArray, List.set_cons_succ, List.set_cons_zero]
            refine flow_val (v := ?_) rfl ?_ ?_; rotate_left; (intro W hW; go_simp; with_reducible rfl)
            simp only [Act.put, List.setIfInBounds_toArray, List.set_cons_succ, List.set_cons_zero]
            refine flow_val (v := ?_) rfl ?_ ?_; rotate_left; (intro W hW; go_simp; with_reducible rfl)
            simp only [Act.put, List.setIfInBounds_toArray, List.set_cons_succ, List.set_cons_zero]
            intro W hW
            have HoW := Lib.hid (Ho8.out.since hW)
            have HqW := Lib.hid (Hq8.out.since hW)
            have HsW := Lib.hid (Hs8.out.after hW)
            have eW := d0 W hW
            have fd := HoW.out.free d
            have cdW := dd W hW
            obtain ⟨w9, hw9⟩ : ∃ w9, w9 = W.setCell ⟨g, d, none⟩ (.int .i64 (q + 1)) := ⟨_, rfl⟩
            have Ho9 : Hid (Own w9 w0.heap.size (.slice (some ⟨g, 0, none⟩) n.ends.length c1) (st'.1.set d (q + 1))) := by rw [hw9]; exact HoW.out.set (k := d) (q + 1)
            have Hq9 : Hid (QA w9 w0.heap.size gv ov cv (st'.2.drop (k + 1))) := by rw [hw9]; exact HqW.out.other hgv _ _
            have Hs9 : Hid (Since w0 w9) := by rw [hw9]; exact Below.setCell HsW.out Hgw.out _
            have hbg : be ≠ g := by have := (World.ownsRow.lt Ho'.out g rfl).2; rw [Hbe.out]; omega
            have e9 : w9.cell? ⟨be, 0, none⟩ = some (.int .i64 d) := by
              rw [hw9]
              have := Below.heap_setCell W ⟨g, d, none⟩ (.int .i64 (q + 1)) be (by simpa using hbg)
              unfold World.cell? at eW ⊢
              rw [this]
              exact eW
            have Hw9 := Lib.hid hw9
            clear hW hw9 d0 dd dc cd ce hbg
            go_upto_region 12 with (fail)
            rw [← Hw9.out]
            clear eW fd cdW m4
            go_wp2_with (at_builtin; refine app_q rfl _ _ rfl rfl (Hq9.out.since (since_alloc _ (since_refl _))) w9.heap.size d rfl (by simp [go_sem]) Hlen.out (since_alloc _ Hs9.out) ?_; intro g7 o7 c7 w7 hq7 hon7 hor7 hs7)
            have Ho7 : Hid (Own w7 w0.heap.size (.slice (some ⟨g, 0, none⟩) n.ends.length c1) (st'.1.set d (q + 1))) := Own.onlyq (Ho9.out.keep (below_alloc w9 _)) hon7 (by simpa [Value.ownBlock] using Ne.symm Hgv.out)
            have Hq7 := Lib.hid hq7
            have Hs7 := Lib.hid hs7
            have Hgz := Lib.hid (World.ownsRow.lt Ho9.out g rfl).2
            have Hg7 : Hid (g7 ≠ g) := by
              rcases hor7 with e | e
              · rw [e]; exact Hgv.out
              · simp at e; exact fun e2 => by have := Hgz.out; omega
            clear hq7 hon7 hor7 hs7 e9
            go_wp2
            go_roundw
            case rel => exact ⟨j + 1, g7, o7, c7, bstep c' st' d, by omega, by go_num, Hnx.out.symm, by rw [Hnew.out, Hdrop.out]; simp, Hg7.out, HBn.out, by rw [Hnew.out]; exact Ho7.out, by rw [Hnew.out, Hdrop.out]; exact Hq7.out, Hs7.out⟩
            case measure => simp [intOf]; omega
          · have Hsame : Hid (bstep c' st' d = st') := by show _ = _; unfold bstep; rw [Int.toNat_natCast, ← Hz.out, if_neg hneg]
            clear d0 dd dc
            go_wp2
            go_roundw
            case rel => exact ⟨j + 1, gv, ov, cv, st', by omega, by go_num, by rw [Hnx.out, Hsame.out], rfl, hgv, HBI'.out, Ho8.out, Hq8.out, Hs8.out⟩
            case measure => simp [intOf]; omega
        · obtain rfl : j = es.length := by omega
          have hsl : see.length = es.length := by rw [← Hse2.out, List.length_map]
          have Hfin : Hid (st' = see.foldl (bstep c') st) := by show _ = _; rw [Hst'.out, ← hsl, List.take_length]
          have Hbn : Hid (bfs n f st' (k + 1) = R) := by
            show _ = _
            rw [← Hbr.out, bfs, if_pos hlt, Hxd.out, ← Hsee.out, ← Hfin.out]
          have Hlw : Hid (k + 1 ≤ st'.2.length) := by
            obtain ⟨ys, hys⟩ := Hfw.out es.length
            show _ ≤ _
            rw [Hst'.out, hys, List.length_append]
            omega
          clear hsl
          go_wp2
          go_roundg f
          case rel => exact ⟨k + 1, st', gv, ov, cv, rfl, hgv, HBI'.out, Hbn.out, by omega, Hlw.out, Ho'.out, Hq'.out, Hs'.out⟩
          case measure => omega
    · have hd0 : st.2.drop k = [] := List.drop_eq_nil_of_le (by omega)
      have hRe : Hid (R = st.1) := by
        rw [← Hbr.out]
        obtain ⟨f, rfl⟩ | h0 : (∃ f', gk = f' + 1) ∨ gk = 0 := by
          rcases Nat.eq_zero_or_pos gk with h | h
          · exact .inr h
          · exact .inl ⟨gk - 1, by omega⟩
        · show bfs _ _ _ _ = _
          rw [bfs, if_neg hlt]
        · subst h0; exact rfl
      rw [hd0]
      go_wp2
      go_ret
      exact ⟨_, rfl, by rw [hRe.out]; exact Ho.out.mono Hb0.out.size, Since.after Hb0.out Hs.out⟩
end Go.Proofs.YtfkmkpamdlhbgaaGreat
namespace Go.Proofs.YtfkmkpamdlhbgaaGreat
open Go.RowKit
set_option maxRecDepth 100000 in
set_option maxHeartbeats 8000000 in
theorem components_any (ve vi vn : Value) (n : Net) (w : World) (h : NetIn w ve vi vn n) (hn : netOk n = true) :
    Calls Tryz.prog 95 #[.agg #[ve, vi, vn]] w fun e w' => ∃ u, e = .returned u ∧ Own w' w.heap.size u (compB n) ∧ Below w.heap.size w w' := by
  have hnl := netOk_len hn
  have hnl1 := hnl.1
  have hnl2 := hnl.2
  have Hn := Lib.hid hn
  obtain ⟨w0, hw0⟩ : ∃ w0, w0 = (w).alloc (.cells #[ve, vi, vn] 27) := ⟨_, rfl⟩
  have hb0 : Below w.heap.size w w0 := by rw [hw0]; exact ((Below.refl _ _).alloc (by simp) _)
  have H := Lib.hid (h.keep hb0)
  obtain ⟨h1, h2, h3⟩ := h.keep hb0
  obtain ⟨A, c, rfl, hlc, hm, hA⟩ := h1
  obtain ⟨A2, c2, rfl, _, hm2, _⟩ := h2
  obtain ⟨A3, c3, rfl, _, hm3, _⟩ := h3
  unfold maxLen at hm hm2 hm3
  have p00 : ∀ W, Since w0 W → W.cell? ⟨w.heap.size, 0, none⟩ = some (.slice A n.ends.length c) := have_cell (by rw [hw0]; simp)
  have p01 : ∀ W, Since w0 W → W.cell? ⟨w.heap.size, 1, none⟩ = some (.slice A2 n.ids.length c2) := have_cell (by rw [hw0]; simp)
  have p02 : ∀ W, Since w0 W → W.cell? ⟨w.heap.size, 2, none⟩ = some (.slice A3 n.inputs.length c3) := have_cell (by rw [hw0]; simp)
  have Hb0 := Lib.hid hb0
  have Hw0 := Lib.hid hw0
  have HA := Lib.hid hA
  clear hA h
  clear hb0 hw0
  obtain ⟨R, hR⟩ : ∃ R, R = compB n := ⟨_, rfl⟩
  have HR := Lib.hid hR
  rw [← hR]
  clear hn hR
  go_enter Tryz.func95, Tryz.ntmps95
  go_upto_region 1 with (fail)
  rw [← Hw0.out]
  go_wp2_with fail
  refine (repeat1_any w0.heap.size 1 (-1) n.ends.length _ hnl.1 (by omega) (by simp)).mono ?_
  rintro e w1 ⟨u1, rfl, ho1, hb1⟩
  rcases ho1.cases with ⟨-, e1⟩ | ⟨g, c1, rfl, hg1, hg2⟩
  · have := congrArg List.length e1; rw [List.length_replicate, List.length_nil] at this; omega
  rw [List.length_replicate] at ho1 ⊢
  have Hs1 : Hid (Since w0 w1) := Since.after (since_alloc _ (since_refl _)) hb1
  have Hgw : Hid (w0.heap.size ≤ g) := by show _ ≤ _; have := hg1; simp at this; omega
  have Hg1 : Hid (g < w1.heap.size) := (World.ownsRow.lt ho1 g (by simp [Value.ownBlock])).2
  have Ho1 : Hid (Own w1 w0.heap.size (.slice (some ⟨g, 0, none⟩) n.ends.length c1) (compAt n 0 0)) := by rw [compAt_zero]; exact ho1.mono (by simp)
  clear ho1 hb1 hg1 hg2 hnl
  go_wp2
  go_loopw [14] (fun i wr => ∃ k : Nat, k ≤ n.ends.length ∧ i = .int .i64 k ∧ Own wr w0.heap.size (.slice (some ⟨g, 0, none⟩) n.ends.length c1) (compAt n k 0) ∧ Since w0 wr ∧ g < wr.heap.size) (fun i _ => n.ends.length - (intOf i).toNat)
  case atStart => exact ⟨0, Nat.zero_le _, rfl, Ho1.out, Hs1.out, Hg1.out⟩
  case round =>
    obtain ⟨k, hk, rfl, ho, hsr, hgr⟩ := hrel
    have Ho := Lib.hid ho
    have Hs := Lib.hid hsr
    have Hg := Lib.hid hgr
    clear ho hsr hgr
    by_cases hlt : k < n.ends.length
    · obtain ⟨x, hx, hxr⟩ := compAt_test Hn.out hlt
      have cz := Ho.out.cell hx
      have m1 : IntKind.i64.wrap ((k : Int) + 1) = (k : Int) + 1 := wr64 _ (by omega) (by omega)
      have Hx := Lib.hid hx
      clear hx
      by_cases hr : leastB n k = k
      · have hx0 : ¬ 0 ≤ x := fun h => hxr.1 h hr
        have hx1 : (0 ≤ x) = False := by simp [hx0]
        have hx2 : x < 0 := by omega
        have Hr := Lib.hid hr
        have hsx := Hs.out
        clear hxr hr hx0
        go_wp2_with fail
        refine (distancesFrom_any _ _ _ n k wr (H.out.keep Hs.out.below) Hn.out hlt).mono ?_
        obtain ⟨ds, hds⟩ : ∃ ds, ds = distB n k := ⟨_, rfl⟩
        rw [← hds]
        rintro e w2 ⟨u2, rfl, ho2, hb2⟩
        have hdl : ds.length = n.ends.length := by rw [hds]; exact bfs_len Hn.out _ _ _ (BI.start hlt)
        obtain ⟨gd, cd, rfl, hgd⟩ : ∃ gd cd, u2 = .slice (some ⟨gd, 0, none⟩) n.ends.length cd ∧ wr.heap.size ≤ gd := by
          rcases ho2.cases with ⟨-, e1⟩ | ⟨gd, cd, rfl, hg1, hg2⟩
          · have := congrArg List.length e1; rw [List.length_nil] at this; omega
          · exact ⟨gd, cd, by rw [hdl], hg1⟩
        have hne : gd ≠ g := by have := Hg.out; omega
        have Hne := Lib.hid hne
        have Ho2 := Lib.hid ho2
        have Hs2 := Lib.hid (Since.after Hs.out hb2)
        have Hoo := Lib.hid (Ho.out.since hb2)
        have Hg2 : Hid (g < w2.heap.size) := Nat.lt_of_lt_of_le Hg.out hb2.size
        have Hds := Lib.hid hds
        have Hdl := Lib.hid hdl
        clear ho2 hb2 hgd hne hds hdl cz hsx
        go_wp2
        go_loopw [26] (fun i wq => ∃ j : Nat, j ≤ n.ends.length ∧ i = .int .i64 j ∧ Own wq w0.heap.size (.slice (some ⟨g, 0, none⟩) n.ends.length c1) (compAt n k j) ∧ Own wq wr.heap.size (.slice (some ⟨gd, 0, none⟩) n.ends.length cd) ds ∧ Since w0 wq ∧ g < wq.heap.size) (fun i _ => n.ends.length - (intOf i).toNat)
        case atStart => exact ⟨0, Nat.zero_le _, rfl, Hoo.out, Ho2.out, Hs2.out, Hg2.out⟩
        case round =>
          obtain ⟨j, hj, rfl, hoq, hdq, hsq, hgq⟩ := hrel
          have Hoq := Lib.hid hoq
          have Hdq := Lib.hid hdq
          have Hsq := Lib.hid hsq
          have Hgq := Lib.hid hgq
          clear hoq hdq hsq hgq
          by_cases hlj : j < n.ends.length
          · obtain ⟨d, hd⟩ := getx ds j (by rw [Hdl.out]; exact hlj)
            obtain ⟨y, hy⟩ := getx (compAt n k j) j (by rw [compAt_len]; exact hlj)
            have cd1 := Hdq.out.cell hd
            have cy := Hoq.out.cell hy
            have fy := Hoq.out.free j
            have hdd : (distB n k).getD j 0 = d := by rw [← Hds.out]; exact getD_of hd
            have m2 : IntKind.i64.wrap ((j : Int) + 1) = (j : Int) + 1 := wr64 _ (by omega) (by omega)
            by_cases h0 : 0 ≤ d
            · have Hp := Lib.hid (compAt_put Hn.out hlt hlj Hr.out (by rw [hdd]; exact h0))
              have h1 : (0 ≤ d) = True := by simp [h0]
              clear hd hy hdd
              go_wp2
              go_roundw
              case rel => exact ⟨j + 1, by omega, by first | rfl | go_num, by rw [← Hp.out]; exact Hoq.out.set (k := j) (k : Int), own_oth Hdq.out (by simp [Value.ownBlock, Hne.out]) _, Below.setCell Hsq.out Hgw.out _, by simpa using Hgq.out⟩
              case measure => simp [intOf]; omega
            · have Hp := Lib.hid (compAt_stay Hn.out hlt hlj Hr.out (by rw [hdd]; exact h0))
              have h1 : (0 ≤ d) = False := by simp [h0]
              have h2 : d < 0 := by omega
              clear hd hy hdd h0
              go_wp2
              go_roundw
              case rel => exact ⟨j + 1, by omega, by first | rfl | go_num, by rw [← Hp.out]; exact Hoq.out, Hdq.out, Hsq.out, Hgq.out⟩
              case measure => simp [intOf]; omega
          · obtain rfl : j = n.ends.length := by omega
            have Hnx := Lib.hid (compAt_next n k)
            clear hj hlj
            go_wp2
            go_roundw
            case rel => exact ⟨k + 1, by omega, by first | rfl | go_num, by rw [← Hnx.out]; exact Hoq.out, Hsq.out, Hgq.out⟩
            case measure => simp [intOf]; omega
      · have hx0 : 0 ≤ x := hxr.2 hr
        have hx1 : (0 ≤ x) = True := by simp [hx0]
        have Hsk := Lib.hid (compAt_skip Hn.out hlt hr)
        clear hxr hr
        go_wp2
        go_roundw
        case rel => exact ⟨k + 1, by omega, by first | rfl | go_num, by rw [← Hsk.out]; exact Ho.out, Hs.out, Hg.out⟩
        case measure => simp [intOf]; omega
    · obtain rfl : k = n.ends.length := by omega
      have He := Lib.hid (compAt_end n (j := 0) Hn.out)
      clear hk hlt
      go_wp2
      go_ret
      exact ⟨_, rfl, by rw [HR.out, ← He.out]; exact Ho.out.mono Hb0.out.size, Since.after Hb0.out Hs.out⟩
end Go.Proofs.YtfkmkpamdlhbgaaGreat
namespace Go.Proofs.YtfkmkpamdlhbgaaGreat
open Go.RowKit
open Go.Maps (Keyed)
/-! the sizes of the components, in a map -/
def kI (p : Nat) : Lit := .int .i64 (p : Int)
def lI (z : Int) : DataW Unit := .lit (.int .i64 z)
theorem kI_inj {p q : Nat} (h : kI p = kI q) : p = q := by
  unfold kI at h
  injection h with _ h
  exact Int.ofNat.inj h
theorem kI_key (p : Nat) : WideAt.IsKeyLit (kI p) := trivial
theorem lawK : Keyed Tryz.prog 3 := Go.Maps.int_keyed Tryz.underlying3
theorem zeroI (w : World) : (zeroValue 3).run Tryz.prog w = .ok (.int .i64 0) w := by kernel_rfl
theorem keyI {p : Nat} (hp : p ≤ 1000000) : keyOf Tryz.prog 3 (.int .i64 (p : Int)) = some (kI p) := Go.Maps.keyOf_int_mk Tryz.underlying3 (WalkArith.wf_i64 (by omega))
theorem Below.ownsMap {w w' : World} {P : Program} {k : TypeId} {R : Value → Option (DataW Unit × List MemPlace)} {b n : Nat} {D : DataW Unit} (h : w.ownsMap P k R b n D) (hb : Below w.heap.size w w') : w'.ownsMap P k R b n D := by
  have hl := h.lt
  obtain ⟨es, clock, h1, h2⟩ := h
  exact ⟨es, clock, (hb.block b hl).trans h1, h2⟩
/-- a look-up whose value is known -/
theorem look_known {w : World} {ops : Array Oper} {rest : List Oper} {o : Oper} {a : Act} {Q : Exit → Act → World → Prop} (hg : o.guard = none) (m x : Operand) (hop : o.op = Op.lookup 105 m x false) (b n : Nat) (D : DataW Unit)
    (hm : a.eval m = .map (some b)) (hown : w.ownsMap Tryz.prog 3 (plainElem (H := Unit) Tryz.prog 3) b n D) (p : Nat) (hp : p ≤ 1000000) (hx : a.eval x = .int .i64 (p : Int)) (y : Int) (hy : D.atKey (kI p) (lI 0) = lI y)
    (hK : wpList Tryz.prog ops Q rest (a.put o.dst (.int .i64 y)) w) : wpList Tryz.prog ops Q (o :: rest) a w :=
  wpList_lookup_own_int w hg m x 105 hop 3 3 .i64 lawK Tryz.underlying105 Tryz.underlying3 (zeroI w) b n D hm hown _ _ hx (keyI hp) (fun c hat _ => by
    have e : lI y = lI c := hy.symm.trans hat
    unfold lI at e
    injection e with e
    injection e with _ e
    subst e
    exact hK)
theorem store_known {w : World} {ops : Array Oper} {rest : List Oper} {o : Oper} {a : Act} {Q : Exit → Act → World → Prop} (hg : o.guard = none) (m x v : Operand) (hop : o.op = Op.mapUpdate 105 m x v) (b n : Nat) (D : DataW Unit)
    (hm : a.eval m = .map (some b)) (hown : w.ownsMap Tryz.prog 3 (plainElem (H := Unit) Tryz.prog 3) b n D) (hn : n ≤ 1000000) (p : Nat) (hp : p ≤ 1000000) (hx : a.eval x = .int .i64 (p : Int)) (y : Int) (hv : a.eval v = .int .i64 y) (hy : -9223372036854775808 ≤ y ∧ y ≤ 9223372036854775807)
    (hK : ∀ w', w'.ownsMap Tryz.prog 3 (plainElem (H := Unit) Tryz.prog 3) b (n + 1) (D.put (kI p) (lI y)) → w.grownBy w' (some b) → wpList Tryz.prog ops Q rest (a.put o.dst undef) w') : wpList Tryz.prog ops Q (o :: rest) a w :=
  wpList_mapUpdate_own w hg m x v 105 hop 3 3 lawK Tryz.underlying105 (plainElem (H := Unit) Tryz.prog 3) b n D hm hown (by unfold maxLen; omega) _ _ (kI p) hx hv (keyI hp) (lI y) [] (plainElem_int Tryz.underlying3 (WalkArith.wf_i64 hy)) hK
structure SizeM (n : Net) (k : Nat) (D : DataW Unit) : Prop where
  map : Maps.IsMap D
  val : ∀ p : Nat, D.atKey (kI p) (lI 0) = lI (sizeTo n p k : Nat)
  keys : ∀ kl, Maps.has D kl = true → ∃ v, v < k ∧ kl = kI (leastB n v)
  all : ∀ v, v < k → Maps.has D (kI (leastB n v)) = true
theorem SizeM.zero (n : Net) : SizeM n 0 (.map []) where
  map := Maps.isMap_empty
  val := fun p => by simp [sizeTo, DataW.atKey]
  keys := fun kl h => by simp [Maps.has] at h
  all := fun v hv => by omega
theorem SizeM.put {n : Net} {k : Nat} {D : DataW Unit} (h : SizeM n k D) : SizeM n (k + 1) (D.put (kI (leastB n k)) (lI ((sizeTo n (leastB n k) k : Nat) + 1))) where
  map := h.map.put _ _
  val := fun p => by
    by_cases e : p = leastB n k
    · subst e
      rw [Maps.atKey_put_same h.map (kI_key _), sizeTo_succ, if_pos rfl]
      simp
    · rw [Maps.atKey_put_other (fun e2 => e (kI_inj e2)), h.val, sizeTo_succ, if_neg (fun e2 => e e2.symm)]
      simp
  keys := fun kl hk => by
    by_cases e : kl = kI (leastB n k)
    · exact ⟨k, by omega, e⟩
    · rw [Maps.has_put_other e] at hk
      obtain ⟨v, hv, e2⟩ := h.keys kl hk
      exact ⟨v, by omega, e2⟩
  all := fun v hv => by
    by_cases e : kI (leastB n v) = kI (leastB n k)
    · rw [e]; exact Maps.has_put_same h.map (kI_key _) _
    · rw [Maps.has_put_other e]
      exact h.all v (by
        apply Decidable.byContradiction
        intro hc
        exact e (by rw [show v = k by omega]))
set_option maxRecDepth 100000 in
set_option maxHeartbeats 8000000 in
theorem componentSizes_any (ve vi vn : Value) (n : Net) (w : World) (h : NetIn w ve vi vn n) (hn : netOk n = true) :
    Calls Tryz.prog 94 #[.agg #[ve, vi, vn]] w fun e w' => ∃ b D, e = .returned (.map (some b)) ∧ w'.ownsMap Tryz.prog 3 (plainElem (H := Unit) Tryz.prog 3) b n.ends.length D ∧ SizeM n n.ends.length D ∧ w.heap.size ≤ b ∧ Below w.heap.size w w' := by
  have hnl := netOk_len hn
  have hnl1 := hnl.1
  have hnl2 := hnl.2
  have Hn := Lib.hid hn
  obtain ⟨w0, hw0⟩ : ∃ w0, w0 = (w).alloc (.cells #[ve, vi, vn] 27) := ⟨_, rfl⟩
  have hb0 : Below w.heap.size w w0 := by rw [hw0]; exact ((Below.refl _ _).alloc (by simp) _)
  have H := Lib.hid (h.keep hb0)
  obtain ⟨h1, h2, h3⟩ := h.keep hb0
  obtain ⟨A, c, rfl, hlc, hm, hA⟩ := h1
  obtain ⟨A2, c2, rfl, _, hm2, _⟩ := h2
  obtain ⟨A3, c3, rfl, _, hm3, _⟩ := h3
  unfold maxLen at hm hm2 hm3
  have p00 : ∀ W, Since w0 W → W.cell? ⟨w.heap.size, 0, none⟩ = some (.slice A n.ends.length c) := have_cell (by rw [hw0]; simp)
  have p01 : ∀ W, Since w0 W → W.cell? ⟨w.heap.size, 1, none⟩ = some (.slice A2 n.ids.length c2) := have_cell (by rw [hw0]; simp)
  have p02 : ∀ W, Since w0 W → W.cell? ⟨w.heap.size, 2, none⟩ = some (.slice A3 n.inputs.length c3) := have_cell (by rw [hw0]; simp)
  have Hb0 := Lib.hid hb0
  have Hw0 := Lib.hid hw0
  have HA := Lib.hid hA
  clear hA h
  clear hb0 hw0
  clear hn hnl
  have hmm := @run_makeMap Tryz.prog
  obtain ⟨b, hb1⟩ : ∃ b, b = w.heap.size + 1 := ⟨_, rfl⟩
  have hb : b = w0.heap.size := by rw [hb1, Hw0.out]; simp
  have Hb1 := Lib.hid hb1
  obtain ⟨w1, hw1⟩ : ∃ w1, w1 = w0.alloc (.map #[] 0) := ⟨_, rfl⟩
  have hs1 : Since w0 w1 := by rw [hw1]; exact since_alloc _ (since_refl _)
  have Ho1 : Hid (w1.ownsMap Tryz.prog 3 (plainElem (H := Unit) Tryz.prog 3) b 0 (.map [])) := by rw [hw1, hb]; exact World.ownsMap_made _ _ _ _
  have Hs1 := Lib.hid hs1
  have Hb := Lib.hid hb
  have Hw1 := Lib.hid hw1
  have Hbw : Hid (w0.heap.size ≤ b) := by rw [hb]; exact Nat.le_refl _
  clear hw1 hb hb1
  go_enter Tryz.func94, Tryz.ntmps94
  go_upto_region 2 with (fail)
  rw [← Hw0.out, ← Hw1.out, ← Hb1.out]
  go_wp2_with fail
  refine (components_any _ _ _ n w1 (H.out.keep Hs1.out.below) Hn.out).mono ?_
  rintro e w2 ⟨u2, rfl, ho2, hb2⟩
  obtain ⟨gc, cc, rfl⟩ : ∃ gc cc, u2 = .slice (some ⟨gc, 0, none⟩) n.ends.length cc := by
    obtain ⟨x, hx⟩ := getx (compB n) 0 (by simp [compB]; omega)
    obtain ⟨g, c, h1, -⟩ := own_row ho2 hx
    exact ⟨g, c, by rw [h1]; simp [compB]⟩
  have Ho2 := Lib.hid ho2
  have Hm2 := Lib.hid (Below.ownsMap Ho1.out hb2)
  have Hs2 : Hid (Below b w0 w2) := (Hs1.out.below.mono (by have := Hb.out; omega)).trans (hb2.mono (by have := Ho1.out.lt; omega))
  have Hbl : Hid (b < w1.heap.size) := Ho1.out.lt
  clear ho2 hb2 hs1 hmm
  go_wp2
  go_loopw [10] (fun i wr => ∃ k D, k ≤ n.ends.length ∧ i = .int .i64 (k : Nat) ∧ wr.ownsMap Tryz.prog 3 (plainElem (H := Unit) Tryz.prog 3) b k D ∧ SizeM n k D ∧ Own wr w1.heap.size (.slice (some ⟨gc, 0, none⟩) n.ends.length cc) (compB n) ∧ Below b w0 wr) (fun i _ => n.ends.length - (intOf i).toNat)
  case atStart => exact ⟨0, _, Nat.zero_le _, rfl, Hm2.out, SizeM.zero n, Ho2.out, Hs2.out⟩
  case round =>
    obtain ⟨k, D, hk, rfl, hm, hsm, hc, hs⟩ := hrel
    have Hm := Lib.hid hm
    have Hsm := Lib.hid hsm
    have Hc := Lib.hid hc
    have Hs := Lib.hid hs
    clear hm hsm hc hs
    by_cases hlt : k < n.ends.length
    · have m3 : IntKind.i64.wrap ((k : Int) + 1) = (k : Int) + 1 := wr64 _ (by omega) (by omega)
      obtain ⟨p, hp⟩ : ∃ p, leastB n k = p := ⟨_, rfl⟩
      have hpl : p ≤ 1000000 := by rw [← hp]; have := least_lt Hn.out hlt; omega
      have c1 := Hc.out.cell (show (compB n)[k]? = some (p : Int) by rw [← hp]; unfold compB; rw [List.getElem?_map, List.getElem?_range hlt]; rfl)
      have Hp := Lib.hid hp
      obtain ⟨z, hz⟩ : ∃ z, sizeTo n p k = z := ⟨_, rfl⟩
      have hzk : z ≤ k := by rw [← hz]; exact sizeTo_le n p k
      have hv := Hsm.out.val p
      rw [hz] at hv
      have Hv := Lib.hid hv
      have m4 : IntKind.i64.wrap ((z : Int) + 1) = (z : Int) + 1 := wr64 _ (by omega) (by omega)
      have Hnx : Hid (SizeM n (k + 1) (D.put (kI p) (lI ((z : Int) + 1)))) := by have := Hsm.out.put; rw [hp, hz] at this; exact this
      have hkm : k ≤ 1000000 := by omega
      have hzm : -9223372036854775808 ≤ (z : Int) + 1 ∧ (z : Int) + 1 ≤ 9223372036854775807 := by omega
      clear hp hz hv
      go_wp2_with (first | (at_lookup; refine look_known rfl _ _ rfl b k D rfl Hm.out p hpl rfl (z : Int) Hv.out ?_) | (at_mapUpdate; refine store_known rfl _ _ _ rfl b k D rfl Hm.out hkm p hpl rfl ((z : Int) + 1) rfl hzm ?_; intro w3 hown3 hgrow3; have Hm3 := Lib.hid hown3; have Hg3 := Lib.hid hgrow3; clear hown3 hgrow3))
      go_roundw
      case rel => exact ⟨k + 1, _, by omega, by first | rfl | go_num, Hm3.out, Hnx.out, ownsRow_stable Hc.out (fun j hj => by
          have h5 := World.ownsRow.lt Hc.out j (by simpa using hj)
          have h6 := Hbl.out
          exact Hg3.out.block j h5.2 (fun e => by simp only [Option.some.injEq] at e; omega)), Below.grown Hs.out Hg3.out (Nat.le_trans (Nat.le_of_lt Hm.out.lt) (Nat.le_refl _)) (fun j hj => by simp only [Option.some.injEq] at hj; omega)⟩
      case measure => simp [intOf]; omega
    · obtain rfl : k = n.ends.length := by omega
      clear hk hlt
      go_wp2
      go_ret
      exact ⟨b, D, rfl, Hm.out, Hsm.out, Nat.le_trans Hb0.out.size Hbw.out, Below.trans Hb0.out (Hs.out.mono (Nat.le_trans Hb0.out.size Hbw.out))⟩
end Go.Proofs.YtfkmkpamdlhbgaaGreat
namespace Go.Proofs.YtfkmkpamdlhbgaaGreat
open Go.RowKit
open Go.Maps (Keyed)
/-! the leaders of the components, in a map of rows -/
/-- what a slice reads as in the map: its address, length and capacity -/
def slD : Value → Option (DataW Unit × List MemPlace)
  | .slice none n c => some (.slice [lI 0, lI n, lI c] [], [])
  | .slice (some ⟨b, 0, none⟩) n c => some (.slice [lI (b + 1), lI n, lI c] [], [])
  | _ => none
def zD : DataW Unit := .slice [lI 0, lI (0 : Nat), lI (0 : Nat)] []
theorem slD_nil : slD (.slice none 0 0) = some (zD, []) := rfl
theorem lI_inj {a b : Int} (h : lI a = lI b) : a = b := by
  unfold lI at h
  injection h with h
  injection h
theorem slD_form {v : Value} {y : DataW Unit × List MemPlace} (h : slD v = some y) : (∃ n c, v = .slice none n c ∧ y = (.slice [lI 0, lI n, lI c] [], [])) ∨ ∃ b n c, v = .slice (some ⟨b, 0, none⟩) n c ∧ y = (.slice [lI ((b : Int) + 1), lI n, lI c] [], []) := by
  unfold slD at h
  split at h
  · rename_i n c; injection h with h; exact .inl ⟨n, c, rfl, h.symm⟩
  · rename_i b n c; injection h with h; exact .inr ⟨b, n, c, rfl, h.symm⟩
  · cases h
theorem slD_inj {u v : Value} {y : DataW Unit × List MemPlace} (h : slD u = some y) (k : slD v = some y) : u = v := by
  rcases slD_form h with ⟨n, c, rfl, e1⟩ | ⟨b, n, c, rfl, e1⟩
  · rcases slD_form k with ⟨n', c', rfl, e2⟩ | ⟨b', n', c', rfl, e2⟩
    · rw [e1] at e2
      simp only [Prod.mk.injEq, DataW.slice.injEq, List.cons.injEq, and_true] at e2
      have h1 := lI_inj e2.2.1
      have h2 := lI_inj e2.2.2
      rw [Int.ofNat.inj h1, Int.ofNat.inj h2]
    · rw [e1] at e2
      simp only [Prod.mk.injEq, DataW.slice.injEq, List.cons.injEq, and_true] at e2
      have h0 := lI_inj e2.1
      omega
  · rcases slD_form k with ⟨n', c', rfl, e2⟩ | ⟨b', n', c', rfl, e2⟩
    · rw [e1] at e2
      simp only [Prod.mk.injEq, DataW.slice.injEq, List.cons.injEq, and_true] at e2
      have h0 := lI_inj e2.1
      omega
    · rw [e1] at e2
      simp only [Prod.mk.injEq, DataW.slice.injEq, List.cons.injEq, and_true] at e2
      have h0 := lI_inj e2.1
      have h1 := lI_inj e2.2.1
      have h2 := lI_inj e2.2.2
      rw [Int.ofNat.inj h1, Int.ofNat.inj h2, show b = b' by omega]
theorem zeroS (w : World) : (zeroValue 25).run Tryz.prog w = .ok (.slice none 0 0) w := by kernel_rfl
structure LeadM (n : Net) (w : World) (B k kk : Nat) (D : DataW Unit) (U : Nat → Value) : Prop where
  map : Maps.IsMap D
  val : ∀ p : Nat, slD (U p) = some (D.atKey (kI p) zD, [])
  own : ∀ p : Nat, Own w B (U p) ((onesTo n p k).map Int.ofNat)
  dis : ∀ (p q j : Nat), p ≠ q → (U p).ownBlock = some j → (U q).ownBlock ≠ some j
  keys : ∀ kl, Maps.has D kl = true → ∃ v, v < kk ∧ kl = kI (leastB n v)
  all : ∀ v, v < kk → Maps.has D (kI (leastB n v)) = true
theorem LeadM.zero (n : Net) (w : World) (B : Nat) : LeadM n w B 0 0 (.map []) (fun _ => .slice none 0 0) where
  map := Maps.isMap_empty
  val := fun p => by rw [slD_nil]; simp [DataW.atKey]
  own := fun p => own_nil _ _
  dis := fun p q j _ h => by simp [Value.ownBlock] at h
  keys := fun kl h => by simp [Maps.has] at h
  all := fun v hv => by omega
theorem LeadM.range {n : Net} {w : World} {B k kk : Nat} {D : DataW Unit} {U : Nat → Value} (h : LeadM n w B k kk D U) {p j : Nat} (hj : (U p).ownBlock = some j) : B ≤ j ∧ j < w.heap.size := World.ownsRow.lt (h.own p) j hj
theorem LeadM.stable {n : Net} {w w' : World} {B k kk : Nat} {D : DataW Unit} {U : Nat → Value} (h : LeadM n w B k kk D U) (hs : ∀ j, B ≤ j → j < w.heap.size → w'.heap[j]? = w.heap[j]?) : LeadM n w' B k kk D U :=
  ⟨h.map, h.val, fun p => ownsRow_stable (h.own p) (fun j hj => by
    have := h.range (p := p) (j := j) (by simpa using hj)
    exact hs j this.1 this.2), h.dis, h.keys, h.all⟩
theorem has_ext {D : DataW Unit} (h : Maps.IsMap D) (n : Net) {k : Nat} (d : DataW Unit) (hk : ∀ kl, Maps.has D kl = true → ∃ v, v < k ∧ kl = kI (leastB n v)) (ha : ∀ v, v < k → Maps.has D (kI (leastB n v)) = true) :
    (∀ kl, Maps.has (D.put (kI (leastB n k)) d) kl = true → ∃ v, v < k + 1 ∧ kl = kI (leastB n v)) ∧ ∀ v, v < k + 1 → Maps.has (D.put (kI (leastB n k)) d) (kI (leastB n v)) = true := by
  constructor
  · intro kl hkl
    by_cases e : kl = kI (leastB n k)
    · exact ⟨k, by omega, e⟩
    · rw [Maps.has_put_other e] at hkl
      obtain ⟨v, hv, e2⟩ := hk kl hkl
      exact ⟨v, by omega, e2⟩
  · intro v hv
    by_cases e : kI (leastB n v) = kI (leastB n k)
    · rw [e]; exact Maps.has_put_same h (kI_key _) _
    · rw [Maps.has_put_other e]
      exact ha v (by
        apply Decidable.byContradiction
        intro hc
        exact e (by rw [show v = k by omega]))
/-- the key is laid, its row as it was -/
theorem LeadM.lay {n : Net} {w : World} {B k : Nat} {D : DataW Unit} {U : Nat → Value} (h : LeadM n w B k k D U) : LeadM n w B k (k + 1) (D.put (kI (leastB n k)) (D.atKey (kI (leastB n k)) zD)) U :=
  ⟨h.map.put _ _, fun p => by
    by_cases e : p = leastB n k
    · subst e
      rw [Maps.atKey_put_same h.map (kI_key _)]; exact h.val _
    · rw [Maps.atKey_put_other (fun e2 => e (kI_inj e2))]; exact h.val _, h.own, h.dis, (has_ext h.map n _ h.keys h.all).1, (has_ext h.map n _ h.keys h.all).2⟩
theorem LeadM.skip {n : Net} {w : World} {B k kk : Nat} {D : DataW Unit} {U : Nat → Value} (h : LeadM n w B k kk D U) (hx : n.inputs.getD k 0 ≠ 1) : LeadM n w B (k + 1) kk D U :=
  ⟨h.map, h.val, fun p => by
    have : oneIn n p k = false := by unfold oneIn; rw [decide_eq_false hx, Bool.and_false]
    rw [(ownTo_skip this).1]; exact h.own p, h.dis, h.keys, h.all⟩
/-- the row of one key has grown -/
theorem LeadM.grow {n : Net} {w w' : World} {B k : Nat} {D : DataW Unit} {U : Nat → Value} {u : Value} {d : DataW Unit} {g : Nat} (h : LeadM n w B k (k + 1) D U) (hx : n.inputs.getD k 0 = 1) (ho : Own w' B u ((onesTo n (leastB n k) k).map Int.ofNat ++ [(k : Int)]))
    (hu : slD u = some (d, [])) (hub : u.ownBlock = some g) (hg : (U (leastB n k)).ownBlock = some g ∨ w.heap.size ≤ g) (hst : ∀ j, B ≤ j → j < w.heap.size → (U (leastB n k)).ownBlock ≠ some j → w'.heap[j]? = w.heap[j]?) :
    LeadM n w' B (k + 1) (k + 1) (D.put (kI (leastB n k)) d) (fun p => if p = leastB n k then u else U p) := by
  refine ⟨h.map.put _ _, fun p => ?_, fun p => ?_, fun p q j hpq hj => ?_, fun kl hkl => ?_, fun v hv => ?_⟩
  · by_cases e : p = leastB n k
    · subst e
      rw [if_pos rfl, Maps.atKey_put_same h.map (kI_key _)]; exact hu
    · rw [if_neg e, Maps.atKey_put_other (fun e2 => e (kI_inj e2))]; exact h.val _
  · by_cases e : p = leastB n k
    · subst e
      have : oneIn n (leastB n k) k = true := by unfold oneIn; rw [decide_eq_true hx, decide_eq_true rfl]; rfl
      rw [if_pos rfl, onesTo_succ, if_pos this, List.map_append]; exact ho
    · have : oneIn n p k = false := by unfold oneIn; rw [decide_eq_false (fun e2 => e e2.symm), Bool.false_and]
      rw [if_neg e, (ownTo_skip this).1]
      refine ownsRow_stable (h.own p) (fun j hj => ?_)
      have hj : (U p).ownBlock = some j := by simpa using hj
      have hr := h.range hj
      exact hst j hr.1 hr.2 (h.dis p _ j e hj)
  · by_cases e : p = leastB n k
    · rw [if_pos e, hub] at hj
      injection hj with hj
      subst hj
      rw [if_neg (fun e2 => hpq (e.trans e2.symm))]
      rcases hg with hg | hg
      · exact h.dis (leastB n k) q g (fun e2 => hpq (e.trans e2)) hg
      · intro hc
        have := (h.range hc).2
        omega
    · rw [if_neg e] at hj
      by_cases e2 : q = leastB n k
      · rw [if_pos e2, hub]
        intro hc
        injection hc with hc
        subst hc
        rcases hg with hg | hg
        · exact h.dis p (leastB n k) g e hj hg
        · have := (h.range hj).2
          omega
      · rw [if_neg e2]; exact h.dis p q j hpq hj
  · by_cases e : kl = kI (leastB n k)
    · exact ⟨k, by omega, e⟩
    · rw [Maps.has_put_other e] at hkl
      exact h.keys kl hkl
  · by_cases e : kI (leastB n v) = kI (leastB n k)
    · rw [e]; exact Maps.has_put_same h.map (kI_key _) _
    · rw [Maps.has_put_other e]; exact h.all v hv
theorem look_row {w : World} {ops : Array Oper} {rest : List Oper} {o : Oper} {a : Act} {Q : Exit → Act → World → Prop} (hg : o.guard = none) (m x : Operand) (hop : o.op = Op.lookup 82 m x false) (b n : Nat) (D : DataW Unit)
    (hm : a.eval m = .map (some b)) (hown : w.ownsMap Tryz.prog 3 slD b n D) (p : Nat) (hp : p ≤ 1000000) (hx : a.eval x = .int .i64 (p : Int)) (u : Value) (hu : slD u = some (D.atKey (kI p) zD, []))
    (hK : wpList Tryz.prog ops Q rest (a.put o.dst u) w) : wpList Tryz.prog ops Q (o :: rest) a w := by
  refine wpList_plain hg fun K' hK' => ?_
  obtain ⟨v, ps, hrun, hv⟩ := hown.lookup lawK Tryz.underlying82 (zeroS w) slD_nil (keyI hp)
  have hps : ps = [] := by
    rcases slD_form hv with ⟨_, _, _, e⟩ | ⟨_, _, _, _, e⟩
    · injection e with _ e
    · injection e with _ e
  subst hps
  obtain rfl := slD_inj hu hv
  unfold Oper.wp
  simp [execOp, hop, hm, hx, hrun, Result.andThen]
  exact hK' _ _ hK
theorem store_row {w : World} {ops : Array Oper} {rest : List Oper} {o : Oper} {a : Act} {Q : Exit → Act → World → Prop} (hg : o.guard = none) (m x v : Operand) (hop : o.op = Op.mapUpdate 82 m x v) (b n : Nat) (D : DataW Unit)
    (hm : a.eval m = .map (some b)) (hown : w.ownsMap Tryz.prog 3 slD b n D) (hn : n ≤ 1000000) (p : Nat) (hp : p ≤ 1000000) (hx : a.eval x = .int .i64 (p : Int)) (u : Value) (hv : a.eval v = u) (d : DataW Unit) (hu : slD u = some (d, []))
    (hK : ∀ w', w'.ownsMap Tryz.prog 3 slD b (n + 1) (D.put (kI p) d) → w.grownBy w' (some b) → wpList Tryz.prog ops Q rest (a.put o.dst undef) w') : wpList Tryz.prog ops Q (o :: rest) a w :=
  wpList_mapUpdate_own w hg m x v 82 hop 3 25 lawK Tryz.underlying82 slD b n D hm hown (by unfold maxLen; omega) _ _ (kI p) hx hv (keyI hp) d [] hu hK
set_option maxRecDepth 100000 in
set_option maxHeartbeats 8000000 in
theorem leaders_any (ve vi vn : Value) (n : Net) (w : World) (h : NetIn w ve vi vn n) (hn : netOk n = true) :
    Calls Tryz.prog 54 #[.agg #[ve, vi, vn]] w fun e w' => ∃ b D U, e = .returned (.map (some b)) ∧ w'.ownsMap Tryz.prog 3 slD b 100 D ∧ LeadM n w' (b + 1) n.ends.length n.ends.length D U ∧ w.heap.size ≤ b ∧ Below w.heap.size w w' := by
  have hnl := netOk_len hn
  have hnl1 := hnl.1
  have hnl2 := hnl.2
  have Hil := Lib.hid (netOk_inq hn).1
  have Hn := Lib.hid hn
  obtain ⟨w0, hw0⟩ : ∃ w0, w0 = (w).alloc (.cells #[ve, vi, vn] 27) := ⟨_, rfl⟩
  have hb0 : Below w.heap.size w w0 := by rw [hw0]; exact ((Below.refl _ _).alloc (by simp) _)
  have H := Lib.hid (h.keep hb0)
  obtain ⟨h1, h2, h3⟩ := h.keep hb0
  obtain ⟨A, c, rfl, hlc, hm, hA⟩ := h1
  obtain ⟨A2, c2, rfl, _, hm2, _⟩ := h2
  obtain ⟨A3, c3, rfl, _, hm3, _⟩ := h3
  unfold maxLen at hm hm2 hm3
  have p00 : ∀ W, Since w0 W → W.cell? ⟨w.heap.size, 0, none⟩ = some (.slice A n.ends.length c) := have_cell (by rw [hw0]; simp)
  have p01 : ∀ W, Since w0 W → W.cell? ⟨w.heap.size, 1, none⟩ = some (.slice A2 n.ids.length c2) := have_cell (by rw [hw0]; simp)
  have p02 : ∀ W, Since w0 W → W.cell? ⟨w.heap.size, 2, none⟩ = some (.slice A3 n.inputs.length c3) := have_cell (by rw [hw0]; simp)
  have Hb0 := Lib.hid hb0
  have Hw0 := Lib.hid hw0
  have HA := Lib.hid hA
  clear hA h
  clear hb0 hw0
  clear hn hnl
  have hmm := @run_makeMap Tryz.prog
  obtain ⟨b, hb1⟩ : ∃ b, b = w.heap.size + 1 := ⟨_, rfl⟩
  have hb : b = w0.heap.size := by rw [hb1, Hw0.out]; simp
  have Hb1 := Lib.hid hb1
  obtain ⟨w1, hw1⟩ : ∃ w1, w1 = w0.alloc (.map #[] 0) := ⟨_, rfl⟩
  have hs1 : Since w0 w1 := by rw [hw1]; exact since_alloc _ (since_refl _)
  have Ho1 : Hid (w1.ownsMap Tryz.prog 3 slD b 0 (.map [])) := by rw [hw1, hb]; exact World.ownsMap_made _ _ _ _
  have Hs1 := Lib.hid hs1
  have Hb := Lib.hid hb
  have Hw1 := Lib.hid hw1
  have Hbw : Hid (w0.heap.size ≤ b) := by rw [hb]; exact Nat.le_refl _
  have Hbs : Hid (b + 1 = w1.heap.size) := by show _ = _; rw [hb, hw1]; simp
  clear hw1 hb hb1
  go_enter Tryz.func54, Tryz.ntmps54
  go_upto_region 2 with (fail)
  rw [← Hw0.out, ← Hw1.out, ← Hb1.out]
  go_wp2_with fail
  refine (components_any _ _ _ n w1 (H.out.keep Hs1.out.below) Hn.out).mono ?_
  rintro e w2 ⟨u2, rfl, ho2, hb2⟩
  obtain ⟨gc, cc, rfl⟩ : ∃ gc cc, u2 = .slice (some ⟨gc, 0, none⟩) n.ends.length cc := by
    obtain ⟨x, hx⟩ := getx (compB n) 0 (by simp [compB]; omega)
    obtain ⟨g, c, h1, -⟩ := own_row ho2 hx
    exact ⟨g, c, by rw [h1]; simp [compB]⟩
  have Hm2 := Lib.hid (Below.ownsMap Ho1.out hb2)
  have Hs2 : Hid (Below b w0 w2) := (Hs1.out.below.mono (by have := Hb.out; omega)).trans (hb2.mono (by have := Hbs.out; omega))
  obtain ⟨B, hB⟩ : ∃ B, B = w2.heap.size := ⟨_, rfl⟩
  have HB1 : Hid (b + 1 ≤ B) := by show _ ≤ _; rw [hB, Hbs.out]; exact hb2.size
  have Hc2 : Hid (∀ W, (∀ j, j < B → j ≠ b → W.heap[j]? = w2.heap[j]?) → Own W w1.heap.size (.slice (some ⟨gc, 0, none⟩) n.ends.length cc) (compB n)) := fun W hW => ownsRow_stable ho2 (fun j hj => by
    have h5 := World.ownsRow.lt ho2 j (by simpa using hj)
    have h6 := Hbs.out
    exact hW j (by omega) (by omega))
  have HB2 : Hid (B ≤ w2.heap.size) := by rw [hB]; exact Nat.le_refl _
  clear ho2 hb2 hs1 hmm hB
  go_wp2
  go_loopw [10] (fun i wr => ∃ k D U m, k ≤ n.ends.length ∧ m = 2 * k ∧ i = .int .i64 (k : Nat) ∧ wr.ownsMap Tryz.prog 3 slD b m D ∧ LeadM n wr B k k D U ∧ (∀ j, j < B → j ≠ b → wr.heap[j]? = w2.heap[j]?) ∧ Below b w0 wr ∧ B ≤ wr.heap.size) (fun i _ => n.ends.length - (intOf i).toNat)
  case atStart => exact ⟨0, _, _, 0, Nat.zero_le _, rfl, rfl, Hm2.out, LeadM.zero n _ _, fun j _ _ => rfl, Hs2.out, HB2.out⟩
  case round =>
    obtain ⟨k, D, U, m, hk, hmk, rfl, hm, hlm, hkeep, hs, hBr⟩ := hrel
    have Hm := Lib.hid hm
    have Hlm := Lib.hid hlm
    have Hkeep := Lib.hid hkeep
    have Hs := Lib.hid hs
    have HBr := Lib.hid hBr
    clear hm hlm hkeep hs hBr
    by_cases hlt : k < n.ends.length
    · have m3 : IntKind.i64.wrap ((k : Int) + 1) = (k : Int) + 1 := wr64 _ (by omega) (by omega)
      obtain ⟨p, hp⟩ : ∃ p, leastB n k = p := ⟨_, rfl⟩
      have hpl : p ≤ 1000000 := by rw [← hp]; have := least_lt Hn.out hlt; omega
      have c1 := (Hc2.out wr Hkeep.out).cell (show (compB n)[k]? = some (p : Int) by rw [← hp]; unfold compB; rw [List.getElem?_map, List.getElem?_range hlt]; rfl)
      have Hp := Lib.hid hp
      obtain ⟨up, hup⟩ : ∃ up, U p = up := ⟨_, rfl⟩
      have Hup := Lib.hid hup
      have Hv : Hid (slD up = some (D.atKey (kI p) zD, [])) := by have := Hlm.out.val p; rwa [hup] at this
      have Hw : Hid (Own wr B up ((onesTo n p k).map Int.ofNat)) := by have := Hlm.out.own p; rwa [hup] at this
      have hkm : m ≤ 1000000 := by omega
      have Hmk := Lib.hid hmk
      clear hp hup hmk
      go_upto_region 6 with (first | (at_lookup; refine look_row rfl _ _ rfl b m D rfl Hm.out p hpl rfl up Hv.out ?_) | (at_builtin; refine app_zeroI rfl _ _ rfl rfl Hw.out none 0 rfl ?_) | (at_mapUpdate; refine store_row rfl _ _ _ rfl b m D rfl Hm.out hkm p hpl rfl up rfl _ Hv.out ?_; intro w3 hown3 hgrow3; have Hm3 := Lib.hid hown3; have Hg3 := Lib.hid hgrow3; clear hown3 hgrow3))
      obtain ⟨D3, hD3⟩ : ∃ D3, D.put (kI p) (D.atKey (kI p) zD) = D3 := ⟨_, rfl⟩
      rw [hD3] at Hm3
      have Hlm3 : Hid (LeadM n w3 B k (k + 1) D3 U) := by
        have h7 := Hlm.out.lay
        rw [Hp.out, hD3] at h7
        exact h7.stable (fun j hj hj2 => Hg3.out.block j hj2 (fun e => by simp only [Option.some.injEq] at e; have := HB1.out; omega))
      have Hkeep3 : Hid (∀ j, j < B → j ≠ b → w3.heap[j]? = w2.heap[j]?) := fun j hj hne => (Hg3.out.block j (Nat.lt_of_lt_of_le hj HBr.out) (fun e => by simp only [Option.some.injEq] at e; exact hne e)).trans (Hkeep.out j hj hne)
      have Hs3 : Hid (Below b w0 w3) := Below.grown Hs.out Hg3.out (Nat.le_of_lt Hm.out.lt) (fun j hj => by simp only [Option.some.injEq] at hj; omega)
      have HB3 : Hid (B ≤ w3.heap.size) := Nat.le_trans HBr.out Hg3.out.size
      have Hv3 : Hid (slD up = some (D3.atKey (kI p) zD, [])) := by have := Hlm3.out.val p; rwa [Hup.out] at this
      have Hw3 : Hid (Own w3 B up ((onesTo n p k).map Int.ofNat)) := by have := Hlm3.out.own p; rwa [Hup.out] at this
      have hs03 : Since w0 w3 := Hs3.out.mono (Nat.le_trans Hbw.out (Nat.le_refl _)) |> fun h => h
      obtain ⟨x, hx⟩ := getx n.inputs k (by rw [Hil.out]; exact hlt)
      obtain ⟨A9, c9, e9, -, -, hA9⟩ := H.out.ns
      cases e9
      obtain ⟨b9, off9, e8, hc9⟩ := hA9 k x hx
      subst e8
      have i1 := bc hs03 hc9
      have q2 := p02 w3 hs03
      have hji : k < n.inputs.length := by rw [Hil.out]; exact hlt
      have Hx : Hid (n.inputs.getD k 0 = x) := getD_of hx
      clear c1 hD3 hA9 hc9 hx Hm Hlm Hkeep Hs HBr Hv Hw
      by_cases h1 : x = 1
      · subst h1
        have hkm2 : m + 1 ≤ 1000000 := by have := Hmk.out; omega
        have Hlen : Hid (((onesTo n p k).map Int.ofNat).length + 1 ≤ 17592186044416) := by show _ ≤ _; rw [List.length_map]; have := onesTo_len n p k; omega
        go_wp2_with (first | (at_lookup; refine look_row rfl _ _ rfl b (m + 1) D3 rfl Hm3.out p hpl rfl up Hv3.out ?_) | (at_builtin; refine app_int rfl _ _ rfl rfl (Hw3.out.keep (since_alloc _ (since_refl _))) w3.heap.size k rfl (by simp [go_sem]) Hlen.out (Nat.le_trans HB3.out (by simp)) ?_; intro g cx w4 ho4 hg4 hl4 hlt4; have Ho4 := Lib.hid ho4; have Hg4 := Lib.hid hg4; have Hl4 := Lib.hid hl4; have Hlt4 := Lib.hid hlt4; have Hm4 : Hid (w4.ownsMap Tryz.prog 3 slD b (m + 1) D3) := (Hm3.out.alloc _).kept hg4 (fun e => by have h8 := (World.ownsRow.lt Hw3.out b e.symm).1; have := HB1.out; omega); clear ho4 hg4 hl4 hlt4) | (at_mapUpdate; refine store_row rfl _ _ _ rfl b (m + 1) D3 rfl Hm4.out hkm2 p hpl rfl _ rfl _ rfl ?_; intro w5 hown5 hgrow5; have Hm5 := Lib.hid hown5; have Hg5 := Lib.hid hgrow5; clear hown5 hgrow5))
        have hkeep5 : ∀ j, j < w3.heap.size → j ≠ b → up.ownBlock ≠ some j → w5.heap[j]? = w3.heap[j]? := fun j hj hne hno => by
          have h8 : w4.heap[j]? = (w3.alloc (.cells #[.int .i64 k] 3)).heap[j]? := Hg4.out.block j (by simp; omega) (fun e => hno e.symm)
          have h9 := Hg5.out.block j (by have := Hg4.out.size; simp at this; omega) (fun e => by simp only [Option.some.injEq] at e; exact hne e)
          rw [h9, h8]
          exact Below.heap_alloc w3 _ j hj
        have hub : ∀ j, up.ownBlock = some j → B ≤ j := fun j hj => (World.ownsRow.lt Hw3.out j hj).1
        have hgu : (U p).ownBlock = some g ∨ w3.heap.size ≤ g := by
          rw [Hup.out]
          rcases Hl4.out with h8 | h8
          · exact .inl h8
          · exact .inr (by rw [h8]; simp)
        have hBg : B ≤ g := by
          rcases hgu with h8 | h8
          · rw [Hup.out] at h8; exact hub g h8
          · exact Nat.le_trans HB3.out h8
        have hL5 := Hlm3.out.grow (w' := w5) (u := .slice (some ⟨g, 0, none⟩) (((onesTo n p k).map Int.ofNat).length + 1) cx) (g := g) (by rw [Hx.out])
          (by
            rw [Hp.out]
            exact ownsRow_stable Ho4.out (fun j hj => by
              have h8 : j = g := by simpa [Value.ownBlock, eq_comm] using hj
              subst h8
              exact Hg5.out.block j Hlt4.out (fun e => by simp only [Option.some.injEq] at e; have := HB1.out; omega))) rfl (by simp [Value.ownBlock]) (by rw [Hp.out]; exact hgu)
          (fun j hj hj2 hno => hkeep5 j hj2 (by have := HB1.out; omega) (by rw [Hp.out, Hup.out] at hno; exact hno))
        rw [Hp.out] at hL5
        have HL5 := Lib.hid hL5
        have Hkeep5 : Hid (∀ j, j < B → j ≠ b → w5.heap[j]? = w2.heap[j]?) := fun j hj hne => (hkeep5 j (Nat.lt_of_lt_of_le hj HB3.out) hne (fun e => by have := hub j e; omega)).trans (Hkeep3.out j hj hne)
        have Hs5 : Hid (Below b w0 w5) := Below.grown (Below.grown (Hs3.out.alloc (Nat.le_of_lt Hm3.out.lt) _) Hg4.out (by have := Hm3.out.lt; simp; omega) (fun j hj => by have := hub j hj; have := HB1.out; omega)) Hg5.out (Nat.le_of_lt Hm4.out.lt) (fun j hj => by simp only [Option.some.injEq] at hj; omega)
        have HB5 : Hid (B ≤ w5.heap.size) := by show _ ≤ _; have h7 := HB3.out; have h8 := Hg4.out.size; have h9 := Hg5.out.size; simp at h8; omega
        clear hL5 hkeep5 hub hgu hBg
        go_roundw
        case rel => exact ⟨k + 1, _, _, m + 1 + 1, by omega, by have := Hmk.out; omega, by first | rfl | go_num, Hm5.out, HL5.out, Hkeep5.out, Hs5.out, HB5.out⟩
        case measure => simp [intOf]; omega
      · have hbe : (x == 1) = false := by simpa using h1
        have HL4 : Hid (LeadM n w3 B (k + 1) (k + 1) D3 U) := Hlm3.out.skip (by rw [Hx.out]; exact h1)
        clear h1
        go_wp2
        go_roundw
        case rel => exact ⟨k + 1, _, _, m + 2, by omega, by have := Hmk.out; omega, by first | rfl | go_num, Hm3.out.mono (by omega), HL4.out, Hkeep3.out, Hs3.out, HB3.out⟩
        case measure => simp [intOf]; omega
    · obtain rfl : k = n.ends.length := by omega
      clear hk hlt
      go_wp2
      go_ret
      refine ⟨b, D, U, rfl, Hm.out.mono (by omega), ?_, Nat.le_trans Hb0.out.size Hbw.out, Below.trans Hb0.out (Hs.out.mono (Nat.le_trans Hb0.out.size Hbw.out))⟩
      have h7 := Hlm.out
      exact ⟨h7.map, h7.val, fun p => (h7.own p).mono HB1.out, h7.dis, h7.keys, h7.all⟩
end Go.Proofs.YtfkmkpamdlhbgaaGreat
