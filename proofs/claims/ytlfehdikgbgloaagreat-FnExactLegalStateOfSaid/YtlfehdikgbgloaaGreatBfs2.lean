import Derived.Test.YtlfehdikgbgloaaGreatBfs1
import Derived.Test.YtlfehdikgbgloaaGreatQueue
import Derived.Test.YtlfehdikgbgloaaGreatRep
namespace Go.Proofs.YtlfehdikgbgloaaGreat
open Go.RowKit
theorem Own.onlyq {W W' : World} {base g : Nat} {u : Value} {xs : List Int} (h : Own W base u xs) (ho : Only [g] W W') (hd : u.ownBlock ≠ some g) : Own W' base u xs :=
  ownsRow_stable h fun j hj => ho.block j (World.ownsRow.lt h j (by simpa using hj)).2 (fun hs => hd (by simp at hs; subst hs; simpa using hj))
set_option maxRecDepth 100000 in
set_option maxHeartbeats 16000000 in
theorem distancesFrom_any (ve vi vn : Value) (n : Net) (v : Nat) (w : World) (h : NetIn w ve vi vn n) (hn : netOk n = true) (hv : v < n.ends.length) :
    Calls Tryz.prog 142 #[.agg #[ve, vi, vn], .int .i64 v] w fun e w' => ∃ u, e = .returned u ∧ Own w' w.heap.size u (distB n v) ∧ Below w.heap.size w w' := by
  have hnl := netOk_len hn
  have Hn := Lib.hid hn
  obtain ⟨w0, hw0⟩ : ∃ w0, w0 = (w).alloc (.cells #[ve, vi, vn] 31) := ⟨_, rfl⟩
  have hb0 : Below w.heap.size w w0 := by rw [hw0]; exact ((Below.refl _ _).alloc (by simp) _)
  have H := Lib.hid (h.keep hb0)
  obtain ⟨h1, h2, h3⟩ := h.keep hb0
  obtain ⟨A, c, rfl, hlc, hm, hA⟩ := h1
  obtain ⟨A2, c2, rfl, _, hm2, _⟩ := h2
  obtain ⟨A3, c3, rfl, _, hm3, _⟩ := h3
  unfold maxLen at hm hm2 hm3
  have p00 : ∀ W, Since w0 W → W.cell? ⟨w.heap.size, 0, none⟩ = some (.slice A n.ends.length c) := have_cell (by rw [hw0]; simp)
  have p01 : ∀ W, Since w0 W → W.cell? ⟨w.heap.size, 1, none⟩ = some (.slice A2 n.ids.length c2) := have_cell (by rw [hw0]; simp)
  have p02 : ∀ W, Since w0 W → W.cell? ⟨w.heap.size, 2, none⟩ = some (.slice A3 n.inputs.length c3) := have_cell (by rw [hw0]; simp)
  have Hb0 := Lib.hid hb0
  have Hw0 := Lib.hid hw0
  have HA := Lib.hid hA
  clear hA h
  clear hb0 hw0
  obtain ⟨R, hR⟩ : ∃ R, R = distB n v := ⟨_, rfl⟩
  have HR := Lib.hid hR
  rw [← hR]
  clear hn hR
  go_enter Tryz.func142, Tryz.ntmps142
  go_upto_region 1 with (fail)
  rw [← Hw0.out]
  go_wp2_with fail
  refine (repeat1_any w0.heap.size 1 (-1) n.ends.length _ hnl.1 (by omega) (by simp)).mono ?_
  rintro e w1 ⟨u1, rfl, ho1, hb1⟩
  rcases ho1.cases with ⟨-, e1⟩ | ⟨g, c1, rfl, hg1, hg2⟩
  · have := congrArg List.length e1; rw [List.length_replicate, List.length_nil] at this; omega
  rw [List.length_replicate] at ho1 ⊢
  have Hs1 : Hid (Since w0 w1) := Since.after (since_alloc _ (since_refl _)) hb1
  have Hgw : Hid (w0.heap.size ≤ g) := by show _ ≤ _; have := hg1; simp at this; omega
  have Ho1 : Hid (Own w1 w0.heap.size (.slice (some ⟨g, 0, none⟩) n.ends.length c1) (List.replicate n.ends.length (-1))) := ho1.mono (by simp)
  have cz := Ho1.out.cell (getD_at (show v < (List.replicate n.ends.length (-1 : Int)).length by simpa using hv))
  have fz := Ho1.out.free v
  obtain ⟨w3, hw3⟩ : ∃ w3, w3 = w1.setCell ⟨g, v, none⟩ (.int .i64 0) := ⟨_, rfl⟩
  have e3 : w3.heap.size = w1.heap.size := by rw [hw3]; simp
  have Ho3 : Hid (Own w3 w0.heap.size (.slice (some ⟨g, 0, none⟩) n.ends.length c1) (bfsStart n v).1) := by rw [hw3]; exact Ho1.out.set (k := v) 0
  have Hs3 : Hid (Since w0 w3) := by rw [hw3]; exact Below.setCell Hs1.out Hgw.out _
  obtain ⟨g2, hg2'⟩ : ∃ g2, g2 = w1.heap.size := ⟨_, rfl⟩
  obtain ⟨w4, hw4⟩ : ∃ w4, w4 = w3.alloc (.cells #[.int .i64 v] 3) := ⟨_, rfl⟩
  have Ho4 : Hid (Own w4 w0.heap.size (.slice (some ⟨g, 0, none⟩) n.ends.length c1) (bfsStart n v).1) := by rw [hw4]; exact Ho3.out.since (since_alloc _ (since_refl _))
  have Hq4 : Hid (QA w4 w0.heap.size g2 0 1 ((bfsStart n v).2.drop 0)) := by
    rw [hw4, hg2', ← e3]
    exact QA.one w3 _ v Hs3.out.below.size
  have Hs4 : Hid (Since w0 w4) := by rw [hw4]; exact since_alloc _ Hs3.out
  have hgg : g2 ≠ g := by have := (World.ownsRow.lt Ho3.out g rfl).2; omega
  have Hw3 := Lib.hid hw3
  have Hw4 := Lib.hid hw4
  have Hg2 := Lib.hid hg2'
  clear hw3 hw4 hg2' e3 ho1 hb1 hg1 hg2
  go_upto_region 4 with (fail)
  rw [← Hw3.out, ← Hg2.out, ← Hw4.out]
  clear cz fz
  go_wp2
  go_loopg [6] (n.ends.length + 1) (fun f u wr => ∃ (k : Nat) (st : List Int × List Int) (gu off cu : Nat), u = .slice (some ⟨gu, off, none⟩) (st.2.drop k).length cu ∧ gu ≠ g ∧ BI n.ends.length st ∧ bfs n f st k = R ∧ n.ends.length + 1 ≤ f + k ∧ k ≤ st.2.length ∧ Own wr w0.heap.size (.slice (some ⟨g, 0, none⟩) n.ends.length c1) st.1 ∧ QA wr w0.heap.size gu off cu (st.2.drop k) ∧ Since w0 wr)
  case atStart => exact ⟨0, bfsStart n v, g2, 0, 1, rfl, hgg, BI.start hv, HR.out.symm, by omega, Nat.zero_le _, Ho4.out, Hq4.out, Hs4.out⟩
  case round =>
    obtain ⟨k, st, gu, off, cu, rfl, hgu, hbi, hbr, hf, hk, ho, hq, hs⟩ := hrel
    have HBI := Lib.hid hbi
    have Hbr := Lib.hid hbr
    have Ho := Lib.hid ho
    have Hq := Lib.hid hq
    have Hs := Lib.hid hs
    have hbd := hbi.bd
    clear hbi hbr ho hq hs hgg
    by_cases hlt : k < st.2.length
    · obtain ⟨f, rfl⟩ : ∃ f', gk = f' + 1 := ⟨gk - 1, by omega⟩
      obtain ⟨x, hx⟩ := getx st.2 k hlt
      have hxin := HBI.out.walk x (List.mem_of_getElem? hx)
      obtain ⟨c', rfl⟩ := Int.eq_ofNat_of_zero_le hxin.1
      have hc : c' < n.ends.length := by omega
      have hdr : st.2.drop k = (c' : Int) :: st.2.drop (k + 1) := by
        rw [List.drop_eq_getElem_cons hlt]
        congr 1
        exact (List.getElem?_eq_some_iff.1 hx).2
      have Hq2 : Hid (QA wr w0.heap.size gu off cu ((c' : Int) :: st.2.drop (k + 1))) := by rw [← hdr]; exact Hq.out
      obtain ⟨ql, hql⟩ : ∃ ql, ql = (st.2.drop (k + 1)).length := ⟨_, rfl⟩
      have e0 : (st.2.drop k).length = ql + 1 := by rw [hdr, hql]; rfl
      rw [e0]
      have cx := Hq2.out.cell (j := 0) rfl
      rw [Nat.add_zero] at cx
      have hcu : ql + 1 ≤ cu := by have := Hq2.out.2.1; rw [List.length_cons, ← hql] at this; exact this
      have Hxd : Hid (st.2.getD k 0 = (c' : Int)) := by show _ = _; rw [List.getD_eq_getElem?_getD, hx]; rfl
      have Hx := Lib.hid hx
      have Hql := Lib.hid hql
      obtain ⟨of2, eo, hq2⟩ : ∃ of2 : Nat, (if cu = 1 then some (⟨gu, off, none⟩ : Addr) else some ⟨gu, off + 1, none⟩) = some ⟨gu, of2, none⟩ ∧ QA wr w0.heap.size gu of2 (cu - 1) (st.2.drop (k + 1)) := by
        by_cases h1 : cu = 1
        · refine ⟨off, by rw [if_pos h1], ?_⟩
          have hz : st.2.drop (k + 1) = [] := List.eq_nil_of_length_eq_zero (by omega)
          rw [hz, h1]
          exact Hq2.out.nil
        · exact ⟨off + 1, by rw [if_neg h1], Hq2.out.tail⟩
      have Hq3 := Lib.hid hq2
      obtain ⟨es, hes⟩ := getx n.ends c' hc
      obtain ⟨hes6, hesin⟩ := netOk_row Hn.out hes
      have Hes := Lib.hid hes
      have Hesin := Lib.hid hesin
      obtain ⟨see, hsee⟩ : ∃ s, s = bsee n c' := ⟨_, rfl⟩
      have Hse2 : Hid (es.map (fun e => e.1) = see) := by show _ = _; rw [hsee, bsee, Int.toNat_natCast, List.getD_eq_getElem?_getD, hes]; rfl
      have Hsee := Lib.hid hsee
      have Hfw : Hid (∀ j, ∃ ys, ((see.take j).foldl (bstep c') st).2 = st.2 ++ ys) := fun j => fold_walk _ _ _
      obtain ⟨b, offr, cr, ur, hA1, hkr, hc1, hrow⟩ := row_at H.out.es hes
      cases hA1
      obtain ⟨A1, z1, rfl, hz1, hz2, hA1⟩ := hrow
      unfold maxLen at hz2
      have HA1 := Lib.hid hA1
      have r1 := lift_cell (have_cell hc1) Hs.out
      have q0 := p00 wr Hs.out
      have q5 := r1 wr (since_refl _)
      clear hx hdr hql e0 Hq hq2 hes hesin hsee hc1 hA1
      go_upto_region 7 with (fail)
      (try rw [eo])
      clear cx eo
      clear hcu
      go_wp2
      go_loopw [6, 34] (fun u i wr => ∃ (j gv ov cv : Nat) (st' : List Int × List Int), j ≤ es.length ∧ i = .int .i64 j ∧ st' = (see.take j).foldl (bstep c') st ∧ u = .slice (some ⟨gv, ov, none⟩) (st'.2.drop (k + 1)).length cv ∧ gv ≠ g ∧ BI n.ends.length st' ∧ Own wr w0.heap.size (.slice (some ⟨g, 0, none⟩) n.ends.length c1) st'.1 ∧ QA wr w0.heap.size gv ov cv (st'.2.drop (k + 1)) ∧ Since w0 wr) (fun _ i _ => es.length - (intOf i).toNat)
      case atStart => exact ⟨0, gu, of2, cu - 1, st, Nat.zero_le _, rfl, rfl, by rw [Hql.out], hgu, HBI.out, Ho.out, Hq3.out, Hs.out⟩
      case round =>
        obtain ⟨j, gv, ov, cv, st', hj, rfl, hst', rfl, hgv, hbi', ho', hq', hs'⟩ := hrel
        have HBI' := Lib.hid hbi'
        have Ho' := Lib.hid ho'
        have Hq' := Lib.hid hq'
        have Hs' := Lib.hid hs'
        have Hst' := Lib.hid hst'
        have hbd' := hbi'.bd
        clear hst' hbi' ho' hq' hs' hgu
        by_cases hlj : j < es.length
        · obtain ⟨⟨x1, x2⟩, hx⟩ := getx es j hlj
          obtain ⟨b1, off1, rfl, hd1, hd2⟩ := HA1.out j _ hx
          obtain ⟨i1, i2⟩ := Hesin.out _ (List.mem_of_getElem? hx)
          simp only at i1 i2
          obtain ⟨d, rfl⟩ := Int.eq_ofNat_of_zero_le i1
          have hd : d < n.ends.length := by omega
          have hy : see[j]? = some (d : Int) := by rw [← Hse2.out, List.getElem?_map, hx]; rfl
          have hl1 : st'.1.length = n.ends.length := HBI'.out.len
          have t1 := have_cell hd1 wr Hs'.out
          have t2 := have_cell hd2 wr Hs'.out
          obtain ⟨w8, hw8⟩ : ∃ w8, w8 = wr.alloc (.cells #[.int .i64 d, .int .i64 x2] 96) := ⟨_, rfl⟩
          obtain ⟨be, hbe⟩ : ∃ be, be = wr.heap.size := ⟨_, rfl⟩
          have Ho8 : Hid (Own w8 w0.heap.size (.slice (some ⟨g, 0, none⟩) n.ends.length c1) st'.1) := by rw [hw8]; exact Ho'.out.since (since_alloc _ (since_refl _))
          have Hq8 : Hid (QA w8 w0.heap.size gv ov cv (st'.2.drop (k + 1))) := by rw [hw8]; exact Hq'.out.since (since_alloc _ (since_refl _))
          have Hs8 : Hid (Since w0 w8) := by rw [hw8]; exact since_alloc _ Hs'.out
          have d0 : ∀ W, Since w8 W → W.cell? ⟨be, 0, none⟩ = some (.int .i64 d) := have_cell (by rw [hw8, hbe]; simp)
          have dd := have_cell (Ho8.out.cell (getD_at (show d < st'.1.length by omega)))
          have dc := have_cell (Ho8.out.cell (getD_at (show c' < st'.1.length by omega)))
          obtain ⟨z, hz⟩ : ∃ z, z = st'.1.getD d 0 := ⟨_, rfl⟩
          obtain ⟨q, hq⟩ : ∃ q, q = st'.1.getD c' 0 := ⟨_, rfl⟩
          rw [← hz] at dd
          rw [← hq] at dc
          have hqb : -1 ≤ q ∧ q < st'.2.length := by rw [hq]; exact HBI'.out.val _ (List.mem_of_getElem? (getD_at (show c' < st'.1.length by omega)))
          have cd := dd w8 (since_refl _)
          have ce := d0 w8 (since_refl _)
          have Hz := Lib.hid hz
          have Hqd := Lib.hid hq
          have Hnx : Hid ((see.take (j + 1)).foldl (bstep c') st = bstep c' st' d) := by show _ = _; rw [fold_snoc hy, ← Hst'.out]
          have Hl1 := Lib.hid hl1
          have Hw8 := Lib.hid hw8
          have Hbe := Lib.hid hbe
          have m3 : IntKind.i64.wrap ((j : Int) + 1) = (j : Int) + 1 := wr64 _ (by omega) (by omega)
          clear hz hq hy hx hl1 hw8 hbe hd1 hd2 i1
          go_upto_region 10 with (fail)
          rw [← Hw8.out, ← Hbe.out]
          clear t1 t2
          by_cases hneg : z < 0
          · have m4 : IntKind.i64.wrap (q + 1) = q + 1 := wr64 _ (by omega) (by omega)
            have Hnew : Hid (bstep c' st' d = (st'.1.set d (q + 1), st'.2 ++ [(d : Int)])) := by show _ = _; unfold bstep; rw [Int.toNat_natCast, Int.toNat_natCast, ← Hz.out, if_pos hneg, ← Hqd.out]
            have HBn : Hid (BI n.ends.length (bstep c' st' d)) := HBI'.out.step (by omega) (by omega)
            obtain ⟨ys, hys⟩ := Hfw.out j
            have hkl : k + 1 ≤ st'.2.length := by rw [Hst'.out, hys, List.length_append]; omega
            have Hdrop : Hid ((st'.2 ++ [(d : Int)]).drop (k + 1) = st'.2.drop (k + 1) ++ [(d : Int)]) := List.drop_append_of_le_length hkl
            have Hlen : Hid ((st'.2.drop (k + 1)).length + 1 ≤ 1000000) := by show _ ≤ _; rw [List.length_drop]; omega
            have Hgv := Lib.hid hgv
            clear hys hkl
            go_upto_region 11 with (fail)
            refine wp_region_flow 9 (Since w8) (by kernel_rfl) (by kernel_rfl) (by simp) (since_drew (since_refl _)) ?_
            simp only [List.take_succ_cons, List.take_zero, List.drop_succ_cons, List.drop_zero]
            refine flow_val (v := ?_) rfl ?_ ?_; rotate_left; (intro W hW; go_simp; with_reducible rfl)
            simp only [Act.put, List.setIfInBounds_toArray, List.set_cons_succ, List.set_cons_zero]
            refine flow_val (v := ?_) rfl ?_ ?_; rotate_left; (intro W hW; go_simp; with_reducible rfl)
            simp only [Act.put, List.setIfInBounds_toArray, List.set_cons_succ, List.set_cons_zero]
            refine flow_val (v := ?_) rfl ?_ ?_; rotate_left; (intro W hW; go_simp; with_reducible rfl)
            simp only [Act.put, List.setIfInBounds_toArray, List.set_cons_succ, List.set_cons_zero]
            refine flow_val (v := ?_) rfl ?_ ?_; rotate_left; (intro W hW; go_simp; with_reducible rfl)
            simp only [Act.put, List.setIfInBounds_toArray, List.set_cons_succ, List.set_cons_zero]
            refine flow_val (v := ?_) rfl ?_ ?_; rotate_left; (intro W hW; go_simp; with_reducible rfl)
            simp only [Act.put, List.setIfInBounds_toArray, List.set_cons_succ, List.set_cons_zero]
            refine flow_val (v := ?_) rfl ?_ ?_; rotate_left; (intro W hW; go_simp; with_reducible rfl)
            simp only [Act.put, List.setIfInBounds_toArray, List.set_cons_succ, List.set_cons_zero]
            refine flow_val (v := ?_) rfl ?_ ?_; rotate_left; (intro W hW; go_simp; with_reducible rfl)
            simp only [Act.put, List.setIfInBounds_toArray, List.set_cons_succ, List.set_cons_zero]
            refine flow_val (v := ?_) rfl ?_ ?_; rotate_left; (intro W hW; go_simp; with_reducible rfl)
            simp only [Act.put, List.setIfInBounds_toArray, List.set_cons_succ, List.set_cons_zero]
            refine flow_val (v := ?_) rfl ?_ ?_; rotate_left; (intro W hW; go_simp; with_reducible rfl)
            simp only [Act.put, List.setIfInBounds_toArray, List.set_cons_succ, List.set_cons_zero]
            intro W hW
            have HoW := Lib.hid (Ho8.out.since hW)
            have HqW := Lib.hid (Hq8.out.since hW)
            have HsW := Lib.hid (Hs8.out.after hW)
            have eW := d0 W hW
            have fd := HoW.out.free d
            have cdW := dd W hW
            obtain ⟨w9, hw9⟩ : ∃ w9, w9 = W.setCell ⟨g, d, none⟩ (.int .i64 (q + 1)) := ⟨_, rfl⟩
            have Ho9 : Hid (Own w9 w0.heap.size (.slice (some ⟨g, 0, none⟩) n.ends.length c1) (st'.1.set d (q + 1))) := by rw [hw9]; exact HoW.out.set (k := d) (q + 1)
            have Hq9 : Hid (QA w9 w0.heap.size gv ov cv (st'.2.drop (k + 1))) := by rw [hw9]; exact HqW.out.other hgv _ _
            have Hs9 : Hid (Since w0 w9) := by rw [hw9]; exact Below.setCell HsW.out Hgw.out _
            have hbg : be ≠ g := by have := (World.ownsRow.lt Ho'.out g rfl).2; rw [Hbe.out]; omega
            have e9 : w9.cell? ⟨be, 0, none⟩ = some (.int .i64 d) := by
              rw [hw9]
              have := Below.heap_setCell W ⟨g, d, none⟩ (.int .i64 (q + 1)) be (by simpa using hbg)
              unfold World.cell? at eW ⊢
              rw [this]
              exact eW
            have Hw9 := Lib.hid hw9
            clear hW hw9 d0 dd dc cd ce hbg
            go_upto_region 12 with (fail)
            rw [← Hw9.out]
            clear eW fd cdW m4
            go_wp2_with (at_builtin; refine app_q rfl _ _ rfl rfl (Hq9.out.since (since_alloc _ (since_refl _))) w9.heap.size d rfl (by simp [go_sem]) Hlen.out (since_alloc _ Hs9.out) ?_; intro g7 o7 c7 w7 hq7 hon7 hor7 hs7)
            have Ho7 : Hid (Own w7 w0.heap.size (.slice (some ⟨g, 0, none⟩) n.ends.length c1) (st'.1.set d (q + 1))) := Own.onlyq (Ho9.out.keep (below_alloc w9 _)) hon7 (by simpa [Value.ownBlock] using Ne.symm Hgv.out)
            have Hq7 := Lib.hid hq7
            have Hs7 := Lib.hid hs7
            have Hgz := Lib.hid (World.ownsRow.lt Ho9.out g rfl).2
            have Hg7 : Hid (g7 ≠ g) := by
              rcases hor7 with e | e
              · rw [e]; exact Hgv.out
              · simp at e; exact fun e2 => by have := Hgz.out; omega
            clear hq7 hon7 hor7 hs7 e9
            go_wp2
            go_roundw
            case rel => exact ⟨j + 1, g7, o7, c7, bstep c' st' d, by omega, by go_num, Hnx.out.symm, by rw [Hnew.out, Hdrop.out]; simp, Hg7.out, HBn.out, by rw [Hnew.out]; exact Ho7.out, by rw [Hnew.out, Hdrop.out]; exact Hq7.out, Hs7.out⟩
            case measure => simp [intOf]; omega
          · have Hsame : Hid (bstep c' st' d = st') := by show _ = _; unfold bstep; rw [Int.toNat_natCast, ← Hz.out, if_neg hneg]
            clear d0 dd dc
            go_wp2
            go_roundw
            case rel => exact ⟨j + 1, gv, ov, cv, st', by omega, by go_num, by rw [Hnx.out, Hsame.out], rfl, hgv, HBI'.out, Ho8.out, Hq8.out, Hs8.out⟩
            case measure => simp [intOf]; omega
        · obtain rfl : j = es.length := by omega
          have hsl : see.length = es.length := by rw [← Hse2.out, List.length_map]
          have Hfin : Hid (st' = see.foldl (bstep c') st) := by show _ = _; rw [Hst'.out, ← hsl, List.take_length]
          have Hbn : Hid (bfs n f st' (k + 1) = R) := by
            show _ = _
            rw [← Hbr.out, bfs, if_pos hlt, Hxd.out, ← Hsee.out, ← Hfin.out]
          have Hlw : Hid (k + 1 ≤ st'.2.length) := by
            obtain ⟨ys, hys⟩ := Hfw.out es.length
            show _ ≤ _
            rw [Hst'.out, hys, List.length_append]
            omega
          clear hsl
          go_wp2
          go_roundg f
          case rel => exact ⟨k + 1, st', gv, ov, cv, rfl, hgv, HBI'.out, Hbn.out, by omega, Hlw.out, Ho'.out, Hq'.out, Hs'.out⟩
          case measure => omega
    · have hd0 : st.2.drop k = [] := List.drop_eq_nil_of_le (by omega)
      have hRe : Hid (R = st.1) := by
        rw [← Hbr.out]
        obtain ⟨f, rfl⟩ | h0 : (∃ f', gk = f' + 1) ∨ gk = 0 := by
          rcases Nat.eq_zero_or_pos gk with h | h
          · exact .inr h
          · exact .inl ⟨gk - 1, by omega⟩
        · show bfs _ _ _ _ = _
          rw [bfs, if_neg hlt]
        · subst h0; exact rfl
      rw [hd0]
      go_wp2
      go_ret
      exact ⟨_, rfl, by rw [hRe.out]; exact Ho.out.mono Hb0.out.size, Since.after Hb0.out Hs.out⟩
end Go.Proofs.YtlfehdikgbgloaaGreat
