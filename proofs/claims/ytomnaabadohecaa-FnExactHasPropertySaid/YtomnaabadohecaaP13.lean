/- Parts of the proof: walks of functions and plain laws. -/
import Derived.Test.YtomnaabadohecaaP8
import Derived.Test.YtomnaabadohecaaP12
import Derived.Test.YtomnaabadohecaaP11
import Derived.Test.YtomnaabadohecaaP6
import Derived.Maps.OwnOps
import Derived.Maps.RangeWalk
import Derived.WalkArith
import Derived.Test.YtomnaabadohecaaP3
import Derived.Test.YtomnaabadohecaaP7
import Derived.WalkSpells
namespace Go.Proofs.Ytomnaabadohecaa
open Go.RowKit
theorem Own.onlyq {W W' : World} {base g : Nat} {u : Value} {xs : List Int} (h : Own W base u xs) (ho : Only [g] W W') (hd : u.ownBlock ≠ some g) : Own W' base u xs :=
  ownsRow_stable h fun j hj => ho.block j (World.ownsRow.lt h j (by simpa using hj)).2 (fun hs => hd (by simp at hs; subst hs; simpa using hj))
set_option maxRecDepth 100000 in
set_option maxHeartbeats 16000000 in
theorem distancesFrom_any (ve vi vn : Value) (n : Net) (v : Nat) (w : World) (h : NetIn w ve vi vn n) (hn : netOk n = true) (hv : v < n.ends.length) :
    Calls Try.prog 41 #[.agg #[ve, vi, vn], .int .i64 v] w fun e w' => ∃ u, e = .returned u ∧ Own w' w.heap.size u (distB n v) ∧ Below w.heap.size w w' := by
  have hnl := netOk_len hn
  have Hn := Lib.hid hn
  obtain ⟨w0, hw0⟩ : ∃ w0, w0 = (w).alloc (.cells #[ve, vi, vn] 31) := ⟨_, rfl⟩
  have hb0 : Below w.heap.size w w0 := by rw [hw0]; exact ((Below.refl _ _).alloc (by simp) _)
  have H := Lib.hid (h.keep hb0)
  obtain ⟨h1, h2, h3⟩ := h.keep hb0
  obtain ⟨A, c, rfl, hlc, hm, hA⟩ := h1
  obtain ⟨A2, c2, rfl, _, hm2, _⟩ := h2
  obtain ⟨A3, c3, rfl, _, hm3, _⟩ := h3
  unfold maxLen at hm hm2 hm3
  have p00 : ∀ W, Since w0 W → W.cell? ⟨w.heap.size, 0, none⟩ = some (.slice A n.ends.length c) := have_cell (by rw [hw0]; simp)
  have p01 : ∀ W, Since w0 W → W.cell? ⟨w.heap.size, 1, none⟩ = some (.slice A2 n.ids.length c2) := have_cell (by rw [hw0]; simp)
  have p02 : ∀ W, Since w0 W → W.cell? ⟨w.heap.size, 2, none⟩ = some (.slice A3 n.inputs.length c3) := have_cell (by rw [hw0]; simp)
  have Hb0 := Lib.hid hb0
  have Hw0 := Lib.hid hw0
  have HA := Lib.hid hA
  clear hA h
  clear hb0 hw0
  obtain ⟨R, hR⟩ : ∃ R, R = distB n v := ⟨_, rfl⟩
  have HR := Lib.hid hR
  rw [← hR]
  clear hn hR
  go_enter Try.func41, Try.ntmps41
  go_upto_region 1 with (fail)
  rw [← Hw0.out]
  go_wp2_with fail
  refine (repeat1_any w0.heap.size 1 (-1) n.ends.length _ hnl.1 (by omega) (by simp)).mono ?_
  rintro e w1 ⟨u1, rfl, ho1, hb1⟩
  rcases ho1.cases with ⟨-, e1⟩ | ⟨g, c1, rfl, hg1, hg2⟩
  · have := congrArg List.length e1; rw [List.length_replicate, List.length_nil] at this; omega
  rw [List.length_replicate] at ho1 ⊢
  have Hs1 : Hid (Since w0 w1) := Since.after (since_alloc _ (since_refl _)) hb1
  have Hgw : Hid (w0.heap.size ≤ g) := by show _ ≤ _; have := hg1; simp at this; omega
  have Ho1 : Hid (Own w1 w0.heap.size (.slice (some ⟨g, 0, none⟩) n.ends.length c1) (List.replicate n.ends.length (-1))) := ho1.mono (by simp)
  have cz := Ho1.out.cell (getD_at (show v < (List.replicate n.ends.length (-1 : Int)).length by simpa using hv))
  have fz := Ho1.out.free v
  obtain ⟨w3, hw3⟩ : ∃ w3, w3 = w1.setCell ⟨g, v, none⟩ (.int .i64 0) := ⟨_, rfl⟩
  have e3 : w3.heap.size = w1.heap.size := by rw [hw3]; simp
  have Ho3 : Hid (Own w3 w0.heap.size (.slice (some ⟨g, 0, none⟩) n.ends.length c1) (bfsStart n v).1) := by rw [hw3]; exact Ho1.out.set (k := v) 0
  have Hs3 : Hid (Since w0 w3) := by rw [hw3]; exact Below.setCell Hs1.out Hgw.out _
  obtain ⟨g2, hg2'⟩ : ∃ g2, g2 = w1.heap.size := ⟨_, rfl⟩
  obtain ⟨w4, hw4⟩ : ∃ w4, w4 = w3.alloc (.cells #[.int .i64 v] 3) := ⟨_, rfl⟩
  have Ho4 : Hid (Own w4 w0.heap.size (.slice (some ⟨g, 0, none⟩) n.ends.length c1) (bfsStart n v).1) := by rw [hw4]; exact Ho3.out.since (since_alloc _ (since_refl _))
  have Hq4 : Hid (QA w4 w0.heap.size g2 0 1 ((bfsStart n v).2.drop 0)) := by
    rw [hw4, hg2', ← e3]
    exact QA.one w3 _ v Hs3.out.below.size
  have Hs4 : Hid (Since w0 w4) := by rw [hw4]; exact since_alloc _ Hs3.out
  have hgg : g2 ≠ g := by have := (World.ownsRow.lt Ho3.out g rfl).2; omega
  have Hw3 := Lib.hid hw3
  have Hw4 := Lib.hid hw4
  have Hg2 := Lib.hid hg2'
  clear hw3 hw4 hg2' e3 ho1 hb1 hg1 hg2
  go_upto_region 4 with (fail)
  rw [← Hw3.out, ← Hg2.out, ← Hw4.out]
  clear cz fz
  go_wp2
  go_loopg [6] (n.ends.length + 1) (fun f u wr => ∃ (k : Nat) (st : List Int × List Int) (gu off cu : Nat), u = .slice (some ⟨gu, off, none⟩) (st.2.drop k).length cu ∧ gu ≠ g ∧ BI n.ends.length st ∧ bfs n f st k = R ∧ n.ends.length + 1 ≤ f + k ∧ k ≤ st.2.length ∧ Own wr w0.heap.size (.slice (some ⟨g, 0, none⟩) n.ends.length c1) st.1 ∧ QA wr w0.heap.size gu off cu (st.2.drop k) ∧ Since w0 wr)
  case atStart => exact ⟨0, bfsStart n v, g2, 0, 1, rfl, hgg, BI.start hv, HR.out.symm, by omega, Nat.zero_le _, Ho4.out, Hq4.out, Hs4.out⟩
  case round =>
    obtain ⟨k, st, gu, off, cu, rfl, hgu, hbi, hbr, hf, hk, ho, hq, hs⟩ := hrel
    have HBI := Lib.hid hbi
    have Hbr := Lib.hid hbr
    have Ho := Lib.hid ho
    have Hq := Lib.hid hq
    have Hs := Lib.hid hs
    have hbd := hbi.bd
    clear hbi hbr ho hq hs hgg
    by_cases hlt : k < st.2.length
    · obtain ⟨f, rfl⟩ : ∃ f', gk = f' + 1 := ⟨gk - 1, by omega⟩
      obtain ⟨x, hx⟩ := getx st.2 k hlt
      have hxin := HBI.out.walk x (List.mem_of_getElem? hx)
      obtain ⟨c', rfl⟩ := Int.eq_ofNat_of_zero_le hxin.1
      have hc : c' < n.ends.length := by omega
      have hdr : st.2.drop k = (c' : Int) :: st.2.drop (k + 1) := by
        rw [List.drop_eq_getElem_cons hlt]
        congr 1
        exact (List.getElem?_eq_some_iff.1 hx).2
      have Hq2 : Hid (QA wr w0.heap.size gu off cu ((c' : Int) :: st.2.drop (k + 1))) := by rw [← hdr]; exact Hq.out
      obtain ⟨ql, hql⟩ : ∃ ql, ql = (st.2.drop (k + 1)).length := ⟨_, rfl⟩
      have e0 : (st.2.drop k).length = ql + 1 := by rw [hdr, hql]; rfl
      rw [e0]
      have cx := Hq2.out.cell (j := 0) rfl
      rw [Nat.add_zero] at cx
      have hcu : ql + 1 ≤ cu := by have := Hq2.out.2.1; rw [List.length_cons, ← hql] at this; exact this
      have Hxd : Hid (st.2.getD k 0 = (c' : Int)) := by show _ = _; rw [List.getD_eq_getElem?_getD, hx]; rfl
      have Hx := Lib.hid hx
      have Hql := Lib.hid hql
      obtain ⟨of2, eo, hq2⟩ : ∃ of2 : Nat, (if cu = 1 then some (⟨gu, off, none⟩ : Addr) else some ⟨gu, off + 1, none⟩) = some ⟨gu, of2, none⟩ ∧ QA wr w0.heap.size gu of2 (cu - 1) (st.2.drop (k + 1)) := by
        by_cases h1 : cu = 1
        · refine ⟨off, by rw [if_pos h1], ?_⟩
          have hz : st.2.drop (k + 1) = [] := List.eq_nil_of_length_eq_zero (by omega)
          rw [hz, h1]
          exact Hq2.out.nil
        · exact ⟨off + 1, by rw [if_neg h1], Hq2.out.tail⟩
      have Hq3 := Lib.hid hq2
      obtain ⟨es, hes⟩ := getx n.ends c' hc
      obtain ⟨hes6, hesin⟩ := netOk_row Hn.out hes
      have Hes := Lib.hid hes
      have Hesin := Lib.hid hesin
      obtain ⟨see, hsee⟩ : ∃ s, s = bsee n c' := ⟨_, rfl⟩
      have Hse2 : Hid (es.map (fun e => e.1) = see) := by show _ = _; rw [hsee, bsee, Int.toNat_natCast, List.getD_eq_getElem?_getD, hes]; rfl
      have Hsee := Lib.hid hsee
      have Hfw : Hid (∀ j, ∃ ys, ((see.take j).foldl (bstep c') st).2 = st.2 ++ ys) := fun j => fold_walk _ _ _
      obtain ⟨b, offr, cr, ur, hA1, hkr, hc1, hrow⟩ := row_at H.out.es hes
      cases hA1
      obtain ⟨A1, z1, rfl, hz1, hz2, hA1⟩ := hrow
      unfold maxLen at hz2
      have HA1 := Lib.hid hA1
      have r1 := lift_cell (have_cell hc1) Hs.out
      have q0 := p00 wr Hs.out
      have q5 := r1 wr (since_refl _)
      clear hx hdr hql e0 Hq hq2 hes hesin hsee hc1 hA1
      go_upto_region 7 with (fail)
      (try rw [eo])
      clear cx eo
      clear hcu
      go_wp2
      go_loopw [6, 34] (fun u i wr => ∃ (j gv ov cv : Nat) (st' : List Int × List Int), j ≤ es.length ∧ i = .int .i64 j ∧ st' = (see.take j).foldl (bstep c') st ∧ u = .slice (some ⟨gv, ov, none⟩) (st'.2.drop (k + 1)).length cv ∧ gv ≠ g ∧ BI n.ends.length st' ∧ Own wr w0.heap.size (.slice (some ⟨g, 0, none⟩) n.ends.length c1) st'.1 ∧ QA wr w0.heap.size gv ov cv (st'.2.drop (k + 1)) ∧ Since w0 wr) (fun _ i _ => es.length - (intOf i).toNat)
      case atStart => exact ⟨0, gu, of2, cu - 1, st, Nat.zero_le _, rfl, rfl, by rw [Hql.out], hgu, HBI.out, Ho.out, Hq3.out, Hs.out⟩
      case round =>
        obtain ⟨j, gv, ov, cv, st', hj, rfl, hst', rfl, hgv, hbi', ho', hq', hs'⟩ := hrel
        have HBI' := Lib.hid hbi'
        have Ho' := Lib.hid ho'
        have Hq' := Lib.hid hq'
        have Hs' := Lib.hid hs'
        have Hst' := Lib.hid hst'
        have hbd' := hbi'.bd
        clear hst' hbi' ho' hq' hs' hgu
        by_cases hlj : j < es.length
        · obtain ⟨⟨x1, x2⟩, hx⟩ := getx es j hlj
          obtain ⟨b1, off1, rfl, hd1, hd2⟩ := HA1.out j _ hx
          obtain ⟨i1, i2⟩ := Hesin.out _ (List.mem_of_getElem? hx)
          simp only at i1 i2
          obtain ⟨d, rfl⟩ := Int.eq_ofNat_of_zero_le i1
          have hd : d < n.ends.length := by omega
          have hy : see[j]? = some (d : Int) := by rw [← Hse2.out, List.getElem?_map, hx]; rfl
          have hl1 : st'.1.length = n.ends.length := HBI'.out.len
          have t1 := have_cell hd1 wr Hs'.out
          have t2 := have_cell hd2 wr Hs'.out
          obtain ⟨w8, hw8⟩ : ∃ w8, w8 = wr.alloc (.cells #[.int .i64 d, .int .i64 x2] 56) := ⟨_, rfl⟩
          obtain ⟨be, hbe⟩ : ∃ be, be = wr.heap.size := ⟨_, rfl⟩
          have Ho8 : Hid (Own w8 w0.heap.size (.slice (some ⟨g, 0, none⟩) n.ends.length c1) st'.1) := by rw [hw8]; exact Ho'.out.since (since_alloc _ (since_refl _))
          have Hq8 : Hid (QA w8 w0.heap.size gv ov cv (st'.2.drop (k + 1))) := by rw [hw8]; exact Hq'.out.since (since_alloc _ (since_refl _))
          have Hs8 : Hid (Since w0 w8) := by rw [hw8]; exact since_alloc _ Hs'.out
          have d0 : ∀ W, Since w8 W → W.cell? ⟨be, 0, none⟩ = some (.int .i64 d) := have_cell (by rw [hw8, hbe]; simp)
          have dd := have_cell (Ho8.out.cell (getD_at (show d < st'.1.length by omega)))
          have dc := have_cell (Ho8.out.cell (getD_at (show c' < st'.1.length by omega)))
          obtain ⟨z, hz⟩ : ∃ z, z = st'.1.getD d 0 := ⟨_, rfl⟩
          obtain ⟨q, hq⟩ : ∃ q, q = st'.1.getD c' 0 := ⟨_, rfl⟩
          rw [← hz] at dd
          rw [← hq] at dc
          have hqb : -1 ≤ q ∧ q < st'.2.length := by rw [hq]; exact HBI'.out.val _ (List.mem_of_getElem? (getD_at (show c' < st'.1.length by omega)))
          have cd := dd w8 (since_refl _)
          have ce := d0 w8 (since_refl _)
          have Hz := Lib.hid hz
          have Hqd := Lib.hid hq
          have Hnx : Hid ((see.take (j + 1)).foldl (bstep c') st = bstep c' st' d) := by show _ = _; rw [fold_snoc hy, ← Hst'.out]
          have Hl1 := Lib.hid hl1
          have Hw8 := Lib.hid hw8
          have Hbe := Lib.hid hbe
          have m3 : IntKind.i64.wrap ((j : Int) + 1) = (j : Int) + 1 := wr64 _ (by omega) (by omega)
          clear hz hq hy hx hl1 hw8 hbe hd1 hd2 i1
          go_upto_region 10 with (fail)
          rw [← Hw8.out, ← Hbe.out]
          clear t1 t2
          by_cases hneg : z < 0
          · have m4 : IntKind.i64.wrap (q + 1) = q + 1 := wr64 _ (by omega) (by omega)
            have Hnew : Hid (bstep c' st' d = (st'.1.set d (q + 1), st'.2 ++ [(d : Int)])) := by show _ = _; unfold bstep; rw [Int.toNat_natCast, Int.toNat_natCast, ← Hz.out, if_pos hneg, ← Hqd.out]
            have HBn : Hid (BI n.ends.length (bstep c' st' d)) := HBI'.out.step (by omega) (by omega)
            obtain ⟨ys, hys⟩ := Hfw.out j
            have hkl : k + 1 ≤ st'.2.length := by rw [Hst'.out, hys, List.length_append]; omega
            have Hdrop : Hid ((st'.2 ++ [(d : Int)]).drop (k + 1) = st'.2.drop (k + 1) ++ [(d : Int)]) := List.drop_append_of_le_length hkl
            have Hlen : Hid ((st'.2.drop (k + 1)).length + 1 ≤ 1000000) := by show _ ≤ _; rw [List.length_drop]; omega
            have Hgv := Lib.hid hgv
            clear hys hkl
            go_upto_region 11 with (fail)
            refine wp_region_flow 9 (Since w8) (by kernel_rfl) (by kernel_rfl) (by simp) (since_drew (since_refl _)) ?_
            simp only [List.take_succ_cons, List.take_zero, List.drop_succ_cons, List.drop_zero]
            refine flow_val (v := ?_) rfl ?_ ?_; rotate_left; (intro W hW; go_simp; with_reducible rfl)
            simp only [Act.put, List.setIfInBounds_toArray, List.set_cons_succ, List.set_cons_zero]
            refine flow_val (v := ?_) rfl ?_ ?_; rotate_left; (intro W hW; go_simp; with_reducible rfl)
            simp only [Act.put, List.setIfInBounds_toArray, List.set_cons_succ, List.set_cons_zero]
            refine flow_val (v := ?_) rfl ?_ ?_; rotate_left; (intro W hW; go_simp; with_reducible rfl)
            simp only [Act.put, List.setIfInBounds_toArray, List.set_cons_succ, List.set_cons_zero]
            refine flow_val (v := ?_) rfl ?_ ?_; rotate_left; (intro W hW; go_simp; with_reducible rfl)
            simp only [Act.put, List.setIfInBounds_toArray, List.set_cons_succ, List.set_cons_zero]
            refine flow_val (v := ?_) rfl ?_ ?_; rotate_left; (intro W hW; go_simp; with_reducible rfl)
            simp only [Act.put, List.setIfInBounds_toArray, List.set_cons_succ, List.set_cons_zero]
            refine flow_val (v := ?_) rfl ?_ ?_; rotate_left; (intro W hW; go_simp; with_reducible rfl)
            simp only [Act.put, List.setIfInBounds_toArray, List.set_cons_succ, List.set_cons_zero]
            refine flow_val (v := ?_) rfl ?_ ?_; rotate_left; (intro W hW; go_simp; with_reducible rfl)
            simp only [Act.put, List.setIfInBounds_toArray, List.set_cons_succ, List.set_cons_zero]
            refine flow_val (v := ?_) rfl ?_ ?_; rotate_left; (intro W hW; go_simp; with_reducible rfl)
            simp only [Act.put, List.setIfInBounds_toArray, List.set_cons_succ, List.set_cons_zero]
            refine flow_val (v := ?_) rfl ?_ ?_; rotate_left; (intro W hW; go_simp; with_reducible rfl)
            simp only [Act.put, List.setIfInBounds_toArray, List.set_cons_succ, List.set_cons_zero]
            intro W hW
            have HoW := Lib.hid (Ho8.out.since hW)
            have HqW := Lib.hid (Hq8.out.since hW)
            have HsW := Lib.hid (Hs8.out.after hW)
            have eW := d0 W hW
            have fd := HoW.out.free d
            have cdW := dd W hW
            obtain ⟨w9, hw9⟩ : ∃ w9, w9 = W.setCell ⟨g, d, none⟩ (.int .i64 (q + 1)) := ⟨_, rfl⟩
            have Ho9 : Hid (Own w9 w0.heap.size (.slice (some ⟨g, 0, none⟩) n.ends.length c1) (st'.1.set d (q + 1))) := by rw [hw9]; exact HoW.out.set (k := d) (q + 1)
            have Hq9 : Hid (QA w9 w0.heap.size gv ov cv (st'.2.drop (k + 1))) := by rw [hw9]; exact HqW.out.other hgv _ _
            have Hs9 : Hid (Since w0 w9) := by rw [hw9]; exact Below.setCell HsW.out Hgw.out _
            have hbg : be ≠ g := by have := (World.ownsRow.lt Ho'.out g rfl).2; rw [Hbe.out]; omega
            have e9 : w9.cell? ⟨be, 0, none⟩ = some (.int .i64 d) := by
              rw [hw9]
              have := Below.heap_setCell W ⟨g, d, none⟩ (.int .i64 (q + 1)) be (by simpa using hbg)
              unfold World.cell? at eW ⊢
              rw [this]
              exact eW
            have Hw9 := Lib.hid hw9
            clear hW hw9 d0 dd dc cd ce hbg
            go_upto_region 12 with (fail)
            rw [← Hw9.out]
            clear eW fd cdW m4
            go_wp2_with (at_builtin; refine app_q rfl _ _ rfl rfl (Hq9.out.since (since_alloc _ (since_refl _))) w9.heap.size d rfl (by simp [go_sem]) Hlen.out (since_alloc _ Hs9.out) ?_; intro g7 o7 c7 w7 hq7 hon7 hor7 hs7)
            have Ho7 : Hid (Own w7 w0.heap.size (.slice (some ⟨g, 0, none⟩) n.ends.length c1) (st'.1.set d (q + 1))) := Own.onlyq (Ho9.out.keep (below_alloc w9 _)) hon7 (by simpa [Value.ownBlock] using Ne.symm Hgv.out)
            have Hq7 := Lib.hid hq7
            have Hs7 := Lib.hid hs7
            have Hgz := Lib.hid (World.ownsRow.lt Ho9.out g rfl).2
            have Hg7 : Hid (g7 ≠ g) := by
              rcases hor7 with e | e
              · rw [e]; exact Hgv.out
              · simp at e; exact fun e2 => by have := Hgz.out; omega
            clear hq7 hon7 hor7 hs7 e9
            go_wp2
            go_roundw
            case rel => exact ⟨j + 1, g7, o7, c7, bstep c' st' d, by omega, by go_num, Hnx.out.symm, by rw [Hnew.out, Hdrop.out]; simp, Hg7.out, HBn.out, by rw [Hnew.out]; exact Ho7.out, by rw [Hnew.out, Hdrop.out]; exact Hq7.out, Hs7.out⟩
            case measure => simp [intOf]; omega
          · have Hsame : Hid (bstep c' st' d = st') := by show _ = _; unfold bstep; rw [Int.toNat_natCast, ← Hz.out, if_neg hneg]
            clear d0 dd dc
            go_wp2
            go_roundw
            case rel => exact ⟨j + 1, gv, ov, cv, st', by omega, by go_num, by rw [Hnx.out, Hsame.out], rfl, hgv, HBI'.out, Ho8.out, Hq8.out, Hs8.out⟩
            case measure => simp [intOf]; omega
        · obtain rfl : j = es.length := by omega
          have hsl : see.length = es.length := by rw [← Hse2.out, List.length_map]
          have Hfin : Hid (st' = see.foldl (bstep c') st) := by show _ = _; rw [Hst'.out, ← hsl, List.take_length]
          have Hbn : Hid (bfs n f st' (k + 1) = R) := by
            show _ = _
            rw [← Hbr.out, bfs, if_pos hlt, Hxd.out, ← Hsee.out, ← Hfin.out]
          have Hlw : Hid (k + 1 ≤ st'.2.length) := by
            obtain ⟨ys, hys⟩ := Hfw.out es.length
            show _ ≤ _
            rw [Hst'.out, hys, List.length_append]
            omega
          clear hsl
          go_wp2
          go_roundg f
          case rel => exact ⟨k + 1, st', gv, ov, cv, rfl, hgv, HBI'.out, Hbn.out, by omega, Hlw.out, Ho'.out, Hq'.out, Hs'.out⟩
          case measure => omega
    · have hd0 : st.2.drop k = [] := List.drop_eq_nil_of_le (by omega)
      have hRe : Hid (R = st.1) := by
        rw [← Hbr.out]
        obtain ⟨f, rfl⟩ | h0 : (∃ f', gk = f' + 1) ∨ gk = 0 := by
          rcases Nat.eq_zero_or_pos gk with h | h
          · exact .inr h
          · exact .inl ⟨gk - 1, by omega⟩
        · show bfs _ _ _ _ = _
          rw [bfs, if_neg hlt]
        · subst h0; exact rfl
      rw [hd0]
      go_wp2
      go_ret
      exact ⟨_, rfl, by rw [hRe.out]; exact Ho.out.mono Hb0.out.size, Since.after Hb0.out Hs.out⟩
end Go.Proofs.Ytomnaabadohecaa
namespace Go.Proofs.Ytomnaabadohecaa
open Go.RowKit
set_option maxRecDepth 100000 in
set_option maxHeartbeats 8000000 in
theorem components_any (ve vi vn : Value) (n : Net) (w : World) (h : NetIn w ve vi vn n) (hn : netOk n = true) :
    Calls Try.prog 40 #[.agg #[ve, vi, vn]] w fun e w' => ∃ u, e = .returned u ∧ Own w' w.heap.size u (compB n) ∧ Below w.heap.size w w' := by
  have hnl := netOk_len hn
  have hnl1 := hnl.1
  have hnl2 := hnl.2
  have Hn := Lib.hid hn
  obtain ⟨w0, hw0⟩ : ∃ w0, w0 = (w).alloc (.cells #[ve, vi, vn] 31) := ⟨_, rfl⟩
  have hb0 : Below w.heap.size w w0 := by rw [hw0]; exact ((Below.refl _ _).alloc (by simp) _)
  have H := Lib.hid (h.keep hb0)
  obtain ⟨h1, h2, h3⟩ := h.keep hb0
  obtain ⟨A, c, rfl, hlc, hm, hA⟩ := h1
  obtain ⟨A2, c2, rfl, _, hm2, _⟩ := h2
  obtain ⟨A3, c3, rfl, _, hm3, _⟩ := h3
  unfold maxLen at hm hm2 hm3
  have p00 : ∀ W, Since w0 W → W.cell? ⟨w.heap.size, 0, none⟩ = some (.slice A n.ends.length c) := have_cell (by rw [hw0]; simp)
  have p01 : ∀ W, Since w0 W → W.cell? ⟨w.heap.size, 1, none⟩ = some (.slice A2 n.ids.length c2) := have_cell (by rw [hw0]; simp)
  have p02 : ∀ W, Since w0 W → W.cell? ⟨w.heap.size, 2, none⟩ = some (.slice A3 n.inputs.length c3) := have_cell (by rw [hw0]; simp)
  have Hb0 := Lib.hid hb0
  have Hw0 := Lib.hid hw0
  have HA := Lib.hid hA
  clear hA h
  clear hb0 hw0
  obtain ⟨R, hR⟩ : ∃ R, R = compB n := ⟨_, rfl⟩
  have HR := Lib.hid hR
  rw [← hR]
  clear hn hR
  go_enter Try.func40, Try.ntmps40
  go_upto_region 1 with (fail)
  rw [← Hw0.out]
  go_wp2_with fail
  refine (repeat1_any w0.heap.size 1 (-1) n.ends.length _ hnl.1 (by omega) (by simp)).mono ?_
  rintro e w1 ⟨u1, rfl, ho1, hb1⟩
  rcases ho1.cases with ⟨-, e1⟩ | ⟨g, c1, rfl, hg1, hg2⟩
  · have := congrArg List.length e1; rw [List.length_replicate, List.length_nil] at this; omega
  rw [List.length_replicate] at ho1 ⊢
  have Hs1 : Hid (Since w0 w1) := Since.after (since_alloc _ (since_refl _)) hb1
  have Hgw : Hid (w0.heap.size ≤ g) := by show _ ≤ _; have := hg1; simp at this; omega
  have Hg1 : Hid (g < w1.heap.size) := (World.ownsRow.lt ho1 g (by simp [Value.ownBlock])).2
  have Ho1 : Hid (Own w1 w0.heap.size (.slice (some ⟨g, 0, none⟩) n.ends.length c1) (compAt n 0 0)) := by rw [compAt_zero]; exact ho1.mono (by simp)
  clear ho1 hb1 hg1 hg2 hnl
  go_wp2
  go_loopw [14] (fun i wr => ∃ k : Nat, k ≤ n.ends.length ∧ i = .int .i64 k ∧ Own wr w0.heap.size (.slice (some ⟨g, 0, none⟩) n.ends.length c1) (compAt n k 0) ∧ Since w0 wr ∧ g < wr.heap.size) (fun i _ => n.ends.length - (intOf i).toNat)
  case atStart => exact ⟨0, Nat.zero_le _, rfl, Ho1.out, Hs1.out, Hg1.out⟩
  case round =>
    obtain ⟨k, hk, rfl, ho, hsr, hgr⟩ := hrel
    have Ho := Lib.hid ho
    have Hs := Lib.hid hsr
    have Hg := Lib.hid hgr
    clear ho hsr hgr
    by_cases hlt : k < n.ends.length
    · obtain ⟨x, hx, hxr⟩ := compAt_test Hn.out hlt
      have cz := Ho.out.cell hx
      have m1 : IntKind.i64.wrap ((k : Int) + 1) = (k : Int) + 1 := wr64 _ (by omega) (by omega)
      have Hx := Lib.hid hx
      clear hx
      by_cases hr : leastB n k = k
      · have hx0 : ¬ 0 ≤ x := fun h => hxr.1 h hr
        have hx1 : (0 ≤ x) = False := by simp [hx0]
        have hx2 : x < 0 := by omega
        have Hr := Lib.hid hr
        have hsx := Hs.out
        clear hxr hr hx0
        go_wp2_with fail
        refine (distancesFrom_any _ _ _ n k wr (H.out.keep Hs.out.below) Hn.out hlt).mono ?_
        obtain ⟨ds, hds⟩ : ∃ ds, ds = distB n k := ⟨_, rfl⟩
        rw [← hds]
        rintro e w2 ⟨u2, rfl, ho2, hb2⟩
        have hdl : ds.length = n.ends.length := by rw [hds]; exact bfs_len Hn.out _ _ _ (BI.start hlt)
        obtain ⟨gd, cd, rfl, hgd⟩ : ∃ gd cd, u2 = .slice (some ⟨gd, 0, none⟩) n.ends.length cd ∧ wr.heap.size ≤ gd := by
          rcases ho2.cases with ⟨-, e1⟩ | ⟨gd, cd, rfl, hg1, hg2⟩
          · have := congrArg List.length e1; rw [List.length_nil] at this; omega
          · exact ⟨gd, cd, by rw [hdl], hg1⟩
        have hne : gd ≠ g := by have := Hg.out; omega
        have Hne := Lib.hid hne
        have Ho2 := Lib.hid ho2
        have Hs2 := Lib.hid (Since.after Hs.out hb2)
        have Hoo := Lib.hid (Ho.out.since hb2)
        have Hg2 : Hid (g < w2.heap.size) := Nat.lt_of_lt_of_le Hg.out hb2.size
        have Hds := Lib.hid hds
        have Hdl := Lib.hid hdl
        clear ho2 hb2 hgd hne hds hdl cz hsx
        go_wp2
        go_loopw [26] (fun i wq => ∃ j : Nat, j ≤ n.ends.length ∧ i = .int .i64 j ∧ Own wq w0.heap.size (.slice (some ⟨g, 0, none⟩) n.ends.length c1) (compAt n k j) ∧ Own wq wr.heap.size (.slice (some ⟨gd, 0, none⟩) n.ends.length cd) ds ∧ Since w0 wq ∧ g < wq.heap.size) (fun i _ => n.ends.length - (intOf i).toNat)
        case atStart => exact ⟨0, Nat.zero_le _, rfl, Hoo.out, Ho2.out, Hs2.out, Hg2.out⟩
        case round =>
          obtain ⟨j, hj, rfl, hoq, hdq, hsq, hgq⟩ := hrel
          have Hoq := Lib.hid hoq
          have Hdq := Lib.hid hdq
          have Hsq := Lib.hid hsq
          have Hgq := Lib.hid hgq
          clear hoq hdq hsq hgq
          by_cases hlj : j < n.ends.length
          · obtain ⟨d, hd⟩ := getx ds j (by rw [Hdl.out]; exact hlj)
            obtain ⟨y, hy⟩ := getx (compAt n k j) j (by rw [compAt_len]; exact hlj)
            have cd1 := Hdq.out.cell hd
            have cy := Hoq.out.cell hy
            have fy := Hoq.out.free j
            have hdd : (distB n k).getD j 0 = d := by rw [← Hds.out]; exact getD_of hd
            have m2 : IntKind.i64.wrap ((j : Int) + 1) = (j : Int) + 1 := wr64 _ (by omega) (by omega)
            by_cases h0 : 0 ≤ d
            · have Hp := Lib.hid (compAt_put Hn.out hlt hlj Hr.out (by rw [hdd]; exact h0))
              have h1 : (0 ≤ d) = True := by simp [h0]
              clear hd hy hdd
              go_wp2
              go_roundw
              case rel => exact ⟨j + 1, by omega, by first | rfl | go_num, by rw [← Hp.out]; exact Hoq.out.set (k := j) (k : Int), own_oth Hdq.out (by simp [Value.ownBlock, Hne.out]) _, Below.setCell Hsq.out Hgw.out _, by simpa using Hgq.out⟩
              case measure => simp [intOf]; omega
            · have Hp := Lib.hid (compAt_stay Hn.out hlt hlj Hr.out (by rw [hdd]; exact h0))
              have h1 : (0 ≤ d) = False := by simp [h0]
              have h2 : d < 0 := by omega
              clear hd hy hdd h0
              go_wp2
              go_roundw
              case rel => exact ⟨j + 1, by omega, by first | rfl | go_num, by rw [← Hp.out]; exact Hoq.out, Hdq.out, Hsq.out, Hgq.out⟩
              case measure => simp [intOf]; omega
          · obtain rfl : j = n.ends.length := by omega
            have Hnx := Lib.hid (compAt_next n k)
            clear hj hlj
            go_wp2
            go_roundw
            case rel => exact ⟨k + 1, by omega, by first | rfl | go_num, by rw [← Hnx.out]; exact Hoq.out, Hsq.out, Hgq.out⟩
            case measure => simp [intOf]; omega
      · have hx0 : 0 ≤ x := hxr.2 hr
        have hx1 : (0 ≤ x) = True := by simp [hx0]
        have Hsk := Lib.hid (compAt_skip Hn.out hlt hr)
        clear hxr hr
        go_wp2
        go_roundw
        case rel => exact ⟨k + 1, by omega, by first | rfl | go_num, by rw [← Hsk.out]; exact Ho.out, Hs.out, Hg.out⟩
        case measure => simp [intOf]; omega
    · obtain rfl : k = n.ends.length := by omega
      have He := Lib.hid (compAt_end n (j := 0) Hn.out)
      clear hk hlt
      go_wp2
      go_ret
      exact ⟨_, rfl, by rw [HR.out, ← He.out]; exact Ho.out.mono Hb0.out.size, Since.after Hb0.out Hs.out⟩
end Go.Proofs.Ytomnaabadohecaa
namespace Go.Proofs.Ytomnaabadohecaa
open Go.RowKit
open Go.Maps (Keyed)
/-! the sizes of the components, in a map -/
def kI (p : Nat) : Lit := .int .i64 (p : Int)
def lI (z : Int) : DataW Unit := .lit (.int .i64 z)
theorem kI_inj {p q : Nat} (h : kI p = kI q) : p = q := by
  unfold kI at h
  injection h with _ h
  exact Int.ofNat.inj h
theorem kI_key (p : Nat) : WideAt.IsKeyLit (kI p) := trivial
theorem lawK : Keyed Try.prog 3 := Go.Maps.int_keyed Try.underlying3
theorem zeroI (w : World) : (zeroValue 3).run Try.prog w = .ok (.int .i64 0) w := by kernel_rfl
theorem keyI {p : Nat} (hp : p ≤ 1000000) : keyOf Try.prog 3 (.int .i64 (p : Int)) = some (kI p) := Go.Maps.keyOf_int_mk Try.underlying3 (WalkArith.wf_i64 (by omega))
theorem Below.ownsMap {w w' : World} {P : Program} {k : TypeId} {R : Value → Option (DataW Unit × List MemPlace)} {b n : Nat} {D : DataW Unit} (h : w.ownsMap P k R b n D) (hb : Below w.heap.size w w') : w'.ownsMap P k R b n D := by
  have hl := h.lt
  obtain ⟨es, clock, h1, h2⟩ := h
  exact ⟨es, clock, (hb.block b hl).trans h1, h2⟩
/-- a look-up whose value is known -/
theorem look_known {w : World} {ops : Array Oper} {rest : List Oper} {o : Oper} {a : Act} {Q : Exit → Act → World → Prop} (hg : o.guard = none) (m x : Operand) (hop : o.op = Op.lookup 45 m x false) (b n : Nat) (D : DataW Unit)
    (hm : a.eval m = .map (some b)) (hown : w.ownsMap Try.prog 3 (plainElem (H := Unit) Try.prog 3) b n D) (p : Nat) (hp : p ≤ 1000000) (hx : a.eval x = .int .i64 (p : Int)) (y : Int) (hy : D.atKey (kI p) (lI 0) = lI y)
    (hK : wpList Try.prog ops Q rest (a.put o.dst (.int .i64 y)) w) : wpList Try.prog ops Q (o :: rest) a w :=
  wpList_lookup_own_int w hg m x 45 hop 3 3 .i64 lawK Try.underlying45 Try.underlying3 (zeroI w) b n D hm hown _ _ hx (keyI hp) (fun c hat _ => by
    have e : lI y = lI c := hy.symm.trans hat
    unfold lI at e
    injection e with e
    injection e with _ e
    subst e
    exact hK)
theorem store_known {w : World} {ops : Array Oper} {rest : List Oper} {o : Oper} {a : Act} {Q : Exit → Act → World → Prop} (hg : o.guard = none) (m x v : Operand) (hop : o.op = Op.mapUpdate 45 m x v) (b n : Nat) (D : DataW Unit)
    (hm : a.eval m = .map (some b)) (hown : w.ownsMap Try.prog 3 (plainElem (H := Unit) Try.prog 3) b n D) (hn : n ≤ 1000000) (p : Nat) (hp : p ≤ 1000000) (hx : a.eval x = .int .i64 (p : Int)) (y : Int) (hv : a.eval v = .int .i64 y) (hy : -9223372036854775808 ≤ y ∧ y ≤ 9223372036854775807)
    (hK : ∀ w', w'.ownsMap Try.prog 3 (plainElem (H := Unit) Try.prog 3) b (n + 1) (D.put (kI p) (lI y)) → w.grownBy w' (some b) → wpList Try.prog ops Q rest (a.put o.dst undef) w') : wpList Try.prog ops Q (o :: rest) a w :=
  wpList_mapUpdate_own w hg m x v 45 hop 3 3 lawK Try.underlying45 (plainElem (H := Unit) Try.prog 3) b n D hm hown (by unfold maxLen; omega) _ _ (kI p) hx hv (keyI hp) (lI y) [] (plainElem_int Try.underlying3 (WalkArith.wf_i64 hy)) hK
structure SizeM (n : Net) (k : Nat) (D : DataW Unit) : Prop where
  map : Maps.IsMap D
  val : ∀ p : Nat, D.atKey (kI p) (lI 0) = lI (sizeTo n p k : Nat)
  keys : ∀ kl, Maps.has D kl = true → ∃ v, v < k ∧ kl = kI (leastB n v)
  all : ∀ v, v < k → Maps.has D (kI (leastB n v)) = true
theorem SizeM.zero (n : Net) : SizeM n 0 (.map []) where
  map := Maps.isMap_empty
  val := fun p => by simp [sizeTo, DataW.atKey]
  keys := fun kl h => by simp [Maps.has] at h
  all := fun v hv => by omega
theorem SizeM.put {n : Net} {k : Nat} {D : DataW Unit} (h : SizeM n k D) : SizeM n (k + 1) (D.put (kI (leastB n k)) (lI ((sizeTo n (leastB n k) k : Nat) + 1))) where
  map := h.map.put _ _
  val := fun p => by
    by_cases e : p = leastB n k
    · subst e
      rw [Maps.atKey_put_same h.map (kI_key _), sizeTo_succ, if_pos rfl]
      simp
    · rw [Maps.atKey_put_other (fun e2 => e (kI_inj e2)), h.val, sizeTo_succ, if_neg (fun e2 => e e2.symm)]
      simp
  keys := fun kl hk => by
    by_cases e : kl = kI (leastB n k)
    · exact ⟨k, by omega, e⟩
    · rw [Maps.has_put_other e] at hk
      obtain ⟨v, hv, e2⟩ := h.keys kl hk
      exact ⟨v, by omega, e2⟩
  all := fun v hv => by
    by_cases e : kI (leastB n v) = kI (leastB n k)
    · rw [e]; exact Maps.has_put_same h.map (kI_key _) _
    · rw [Maps.has_put_other e]
      exact h.all v (by
        apply Decidable.byContradiction
        intro hc
        exact e (by rw [show v = k by omega]))
set_option maxRecDepth 100000 in
set_option maxHeartbeats 8000000 in
theorem componentSizes_any (ve vi vn : Value) (n : Net) (w : World) (h : NetIn w ve vi vn n) (hn : netOk n = true) :
    Calls Try.prog 22 #[.agg #[ve, vi, vn]] w fun e w' => ∃ b D, e = .returned (.map (some b)) ∧ w'.ownsMap Try.prog 3 (plainElem (H := Unit) Try.prog 3) b n.ends.length D ∧ SizeM n n.ends.length D ∧ w.heap.size ≤ b ∧ Below w.heap.size w w' := by
  have hnl := netOk_len hn
  have hnl1 := hnl.1
  have hnl2 := hnl.2
  have Hn := Lib.hid hn
  obtain ⟨w0, hw0⟩ : ∃ w0, w0 = (w).alloc (.cells #[ve, vi, vn] 31) := ⟨_, rfl⟩
  have hb0 : Below w.heap.size w w0 := by rw [hw0]; exact ((Below.refl _ _).alloc (by simp) _)
  have H := Lib.hid (h.keep hb0)
  obtain ⟨h1, h2, h3⟩ := h.keep hb0
  obtain ⟨A, c, rfl, hlc, hm, hA⟩ := h1
  obtain ⟨A2, c2, rfl, _, hm2, _⟩ := h2
  obtain ⟨A3, c3, rfl, _, hm3, _⟩ := h3
  unfold maxLen at hm hm2 hm3
  have p00 : ∀ W, Since w0 W → W.cell? ⟨w.heap.size, 0, none⟩ = some (.slice A n.ends.length c) := have_cell (by rw [hw0]; simp)
  have p01 : ∀ W, Since w0 W → W.cell? ⟨w.heap.size, 1, none⟩ = some (.slice A2 n.ids.length c2) := have_cell (by rw [hw0]; simp)
  have p02 : ∀ W, Since w0 W → W.cell? ⟨w.heap.size, 2, none⟩ = some (.slice A3 n.inputs.length c3) := have_cell (by rw [hw0]; simp)
  have Hb0 := Lib.hid hb0
  have Hw0 := Lib.hid hw0
  have HA := Lib.hid hA
  clear hA h
  clear hb0 hw0
  clear hn hnl
  have hmm := @run_makeMap Try.prog
  obtain ⟨b, hb1⟩ : ∃ b, b = w.heap.size + 1 := ⟨_, rfl⟩
  have hb : b = w0.heap.size := by rw [hb1, Hw0.out]; simp
  have Hb1 := Lib.hid hb1
  obtain ⟨w1, hw1⟩ : ∃ w1, w1 = w0.alloc (.map #[] 0) := ⟨_, rfl⟩
  have hs1 : Since w0 w1 := by rw [hw1]; exact since_alloc _ (since_refl _)
  have Ho1 : Hid (w1.ownsMap Try.prog 3 (plainElem (H := Unit) Try.prog 3) b 0 (.map [])) := by rw [hw1, hb]; exact World.ownsMap_made _ _ _ _
  have Hs1 := Lib.hid hs1
  have Hb := Lib.hid hb
  have Hw1 := Lib.hid hw1
  have Hbw : Hid (w0.heap.size ≤ b) := by rw [hb]; exact Nat.le_refl _
  clear hw1 hb hb1
  go_enter Try.func22, Try.ntmps22
  go_upto_region 2 with (fail)
  rw [← Hw0.out, ← Hw1.out, ← Hb1.out]
  go_wp2_with fail
  refine (components_any _ _ _ n w1 (H.out.keep Hs1.out.below) Hn.out).mono ?_
  rintro e w2 ⟨u2, rfl, ho2, hb2⟩
  obtain ⟨gc, cc, rfl⟩ : ∃ gc cc, u2 = .slice (some ⟨gc, 0, none⟩) n.ends.length cc := by
    obtain ⟨x, hx⟩ := getx (compB n) 0 (by simp [compB]; omega)
    obtain ⟨g, c, h1, -⟩ := own_row ho2 hx
    exact ⟨g, c, by rw [h1]; simp [compB]⟩
  have Ho2 := Lib.hid ho2
  have Hm2 := Lib.hid (Below.ownsMap Ho1.out hb2)
  have Hs2 : Hid (Below b w0 w2) := (Hs1.out.below.mono (by have := Hb.out; omega)).trans (hb2.mono (by have := Ho1.out.lt; omega))
  have Hbl : Hid (b < w1.heap.size) := Ho1.out.lt
  clear ho2 hb2 hs1 hmm
  go_wp2
  go_loopw [10] (fun i wr => ∃ k D, k ≤ n.ends.length ∧ i = .int .i64 (k : Nat) ∧ wr.ownsMap Try.prog 3 (plainElem (H := Unit) Try.prog 3) b k D ∧ SizeM n k D ∧ Own wr w1.heap.size (.slice (some ⟨gc, 0, none⟩) n.ends.length cc) (compB n) ∧ Below b w0 wr) (fun i _ => n.ends.length - (intOf i).toNat)
  case atStart => exact ⟨0, _, Nat.zero_le _, rfl, Hm2.out, SizeM.zero n, Ho2.out, Hs2.out⟩
  case round =>
    obtain ⟨k, D, hk, rfl, hm, hsm, hc, hs⟩ := hrel
    have Hm := Lib.hid hm
    have Hsm := Lib.hid hsm
    have Hc := Lib.hid hc
    have Hs := Lib.hid hs
    clear hm hsm hc hs
    by_cases hlt : k < n.ends.length
    · have m3 : IntKind.i64.wrap ((k : Int) + 1) = (k : Int) + 1 := wr64 _ (by omega) (by omega)
      obtain ⟨p, hp⟩ : ∃ p, leastB n k = p := ⟨_, rfl⟩
      have hpl : p ≤ 1000000 := by rw [← hp]; have := least_lt Hn.out hlt; omega
      have c1 := Hc.out.cell (show (compB n)[k]? = some (p : Int) by rw [← hp]; unfold compB; rw [List.getElem?_map, List.getElem?_range hlt]; rfl)
      have Hp := Lib.hid hp
      obtain ⟨z, hz⟩ : ∃ z, sizeTo n p k = z := ⟨_, rfl⟩
      have hzk : z ≤ k := by rw [← hz]; exact sizeTo_le n p k
      have hv := Hsm.out.val p
      rw [hz] at hv
      have Hv := Lib.hid hv
      have m4 : IntKind.i64.wrap ((z : Int) + 1) = (z : Int) + 1 := wr64 _ (by omega) (by omega)
      have Hnx : Hid (SizeM n (k + 1) (D.put (kI p) (lI ((z : Int) + 1)))) := by have := Hsm.out.put; rw [hp, hz] at this; exact this
      have hkm : k ≤ 1000000 := by omega
      have hzm : -9223372036854775808 ≤ (z : Int) + 1 ∧ (z : Int) + 1 ≤ 9223372036854775807 := by omega
      clear hp hz hv
      go_wp2_with (first | (at_lookup; refine look_known rfl _ _ rfl b k D rfl Hm.out p hpl rfl (z : Int) Hv.out ?_) | (at_mapUpdate; refine store_known rfl _ _ _ rfl b k D rfl Hm.out hkm p hpl rfl ((z : Int) + 1) rfl hzm ?_; intro w3 hown3 hgrow3; have Hm3 := Lib.hid hown3; have Hg3 := Lib.hid hgrow3; clear hown3 hgrow3))
      go_roundw
      case rel => exact ⟨k + 1, _, by omega, by first | rfl | go_num, Hm3.out, Hnx.out, ownsRow_stable Hc.out (fun j hj => by
          have h5 := World.ownsRow.lt Hc.out j (by simpa using hj)
          have h6 := Hbl.out
          exact Hg3.out.block j h5.2 (fun e => by simp only [Option.some.injEq] at e; omega)), Below.grown Hs.out Hg3.out (Nat.le_trans (Nat.le_of_lt Hm.out.lt) (Nat.le_refl _)) (fun j hj => by simp only [Option.some.injEq] at hj; omega)⟩
      case measure => simp [intOf]; omega
    · obtain rfl : k = n.ends.length := by omega
      clear hk hlt
      go_wp2
      go_ret
      exact ⟨b, D, rfl, Hm.out, Hsm.out, Nat.le_trans Hb0.out.size Hbw.out, Below.trans Hb0.out (Hs.out.mono (Nat.le_trans Hb0.out.size Hbw.out))⟩
end Go.Proofs.Ytomnaabadohecaa
namespace Go.Proofs.Ytomnaabadohecaa
open Go.RowKit
/-! what copies of networks need -/
theorem tflow_alloc {P : Program} {ops : Array Oper} {w0 : World} {fin : Act → World → Prop} {o : Oper} {rest : List Oper} {A : Act} {W : World} {ob : Obj} {v : Value} (hw : Region.wanted o (yielded ops A.tmps) = true) (h : (execOp A.eval o).run P W = .ok (.value v) (W.alloc ob)) (hS : Since w0 W)
    (hr : ∀ W', W' = W.alloc ob → Since w0 W' → TFlow P ops (Since w0) fin rest (A.put o.dst v) W') : TFlow P ops (Since w0) fin (o :: rest) A W :=
  tflow_new hw h (since_alloc _ hS) (hr _ rfl (since_alloc _ hS))
/-- the first k blocks of a world -/
def trunc (w : World) (k : Nat) : World := { w with heap := w.heap.extract 0 k }
theorem trunc_size (w : World) {k : Nat} (hk : k ≤ w.heap.size) : (trunc w k).heap.size = k := by simp [trunc]; omega
theorem trunc_since (w : World) {k : Nat} (hk : k ≤ w.heap.size) : Since (trunc w k) w := by
  refine ⟨rfl, rfl, rfl, by rw [trunc_size w hk]; exact hk, fun i hi => ?_⟩
  rw [trunc_size w hk] at hi
  simp [trunc, Array.getElem?_extract, hi]
  omega
theorem since_trunc {w0 w : World} {k : Nat} (h : Since w0 w) (hk : k ≤ w.heap.size) (h0 : w0.heap.size ≤ k) : Since w0 (trunc w k) := by
  refine ⟨h.os, h.tape, h.output, by rw [trunc_size w hk]; exact h0, fun i hi => ?_⟩
  have := h.block i hi
  simp only [trunc, Array.getElem?_extract]
  rw [if_pos (by omega)]
  simpa using this
/-- a box of a network, its type too -/
def BoxN (W : World) (b : Nat) (x y z : Value) : Prop := W.heap[b]? = some (.cells #[x, y, z] 31)
theorem BoxN.box {W : World} {b : Nat} {x y z : Value} (h : BoxN W b x y z) : Box3 W b x y z := ⟨_, h⟩
theorem BoxN.lt {W : World} {b : Nat} {x y z : Value} (h : BoxN W b x y z) : b < W.heap.size := (Array.getElem?_eq_some_iff.1 h).1
theorem BoxN.since {W W' : World} {b : Nat} {x y z : Value} (h : BoxN W b x y z) (hs : Since W W') : BoxN W' b x y z := (hs.block b h.lt).trans h
def NewB (W : World) (B : Nat) (u : Value) : Prop := ∃ b, u = .pointer (some ⟨b, 0, none⟩) ∧ B ≤ b ∧ BoxN W b (.slice none 0 0) (.slice none 0 0) (.slice none 0 0)
theorem NewB.keep {W W' : World} {B : Nat} {u : Value} (h : NewB W B u) (hs : Since W W') : NewB W' B u := by
  obtain ⟨b, h1, h2, h3⟩ := h
  exact ⟨b, h1, h2, h3.since hs⟩
theorem NewB.new (W : World) {B : Nat} (h : B ≤ W.heap.size) : NewB (W.alloc (.cells #[.slice none 0 0, .slice none 0 0, .slice none 0 0] 31)) B (.pointer (some ⟨W.heap.size, 0, none⟩)) :=
  ⟨_, rfl, h, by show (W.heap.push _)[W.heap.size]? = _; rw [Array.getElem?_push_size]⟩
def NewRows (W : World) (B n : Nat) (u : Value) : Prop := ∃ g, u = .slice (some ⟨g, 0, none⟩) n n ∧ B ≤ g ∧ OwnEE W B (.slice (some ⟨g, 0, none⟩) n n) (List.replicate n []) [g]
theorem NewRows.keep {W W' : World} {B n : Nat} {u : Value} (h : NewRows W B n u) (hs : Since W W') : NewRows W' B n u := by
  obtain ⟨g, h1, h2, h3⟩ := h
  exact ⟨g, h1, h2, lawEE.keep h3 hs.below⟩
theorem own_neN {W : World} {base b : Nat} {v x y z : Value} {xs : List Int} (h : Own W base v xs) (hb : BoxN W b x y z) : v.ownBlock ≠ some b := by
  rcases h.2 with ⟨rfl, _⟩ | ⟨g, cap, cur, rfl, _, hc, _⟩
  · simp [Value.ownBlock]
  · intro e
    simp [Value.ownBlock] at e
    subst e
    unfold BoxN at hb
    rw [hb] at hc
    simp at hc
theorem own_neR {W : World} {base base' g : Nat} {v : Value} {n c : Nat} {xs : List Int} {ess : List (List (Int × Int))} {S : List Nat} (h : Own W base v xs) (hg : OwnEE W base' (.slice (some ⟨g, 0, none⟩) n c) ess S) : v.ownBlock ≠ some g := by
  rcases h.2 with ⟨rfl, _⟩ | ⟨q, cap, cur, rfl, _, hc, _⟩
  · simp [Value.ownBlock]
  · intro e
    simp [Value.ownBlock] at e
    subst e
    obtain ⟨vs, Ss, h1, _⟩ := hg
    rcases h1.2 with ⟨h0, _⟩ | ⟨q', cap', cur', h0, _, hc', _⟩
    · cases h0
    · cases h0
      rw [hc] at hc'
      simp at hc'
theorem boxN_neR {W : World} {base' g b : Nat} {x y z : Value} {n c : Nat} {ess : List (List (Int × Int))} {S : List Nat} (h : BoxN W b x y z) (hg : OwnEE W base' (.slice (some ⟨g, 0, none⟩) n c) ess S) : b ≠ g := by
  intro e
  subst e
  obtain ⟨vs, Ss, h1, _⟩ := hg
  rcases h1.2 with ⟨h0, _⟩ | ⟨q', cap', cur', h0, _, hc', _⟩
  · cases h0
  · cases h0
    unfold BoxN at h
    rw [h] at hc'
    simp at hc'
/-- append of a row of ends, empty or not -/
theorem app_endsE {w w0 : World} {ops : Array Oper} {rest : List Oper} {o : Oper} {a : Act} {Q : Exit → Act → World → Prop} (hgd : o.guard = none) (s x : Operand)
    (ho : o.op = .call { callee := .builtin .append, args := #[s, x], argTypes := #[54, 54] }) {v u : Value} {xs ys : List (Int × Int)} {T : List Nat} (hs : a.eval s = v) (h : OwnE w w0.heap.size v xs T) (hy : EndS w u ys)
    (hx : a.eval x = u) (hl : xs.length + ys.length ≤ 1000000) (hsn : Since w0 w)
    (k : ∀ v' w' T', OwnE w' w0.heap.size v' (xs ++ ys) T' → (∀ j ∈ T', j ∈ T ∨ j = w.heap.size) → Only T w w' → Since w0 w' → wpList Try.prog ops Q rest (a.put o.dst v') w') : wpList Try.prog ops Q (o :: rest) a w := by
  obtain ⟨i0, hi, hz0, hz1, hz2⟩ := info_parts end_info
  obtain ⟨A, c, rfl, _, _, hA⟩ := hy
  have hlt := fun q hq => World.ownsRow.lt h.1 q hq
  rcases Nat.eq_zero_or_pos ys.length with h0 | h0
  · have hys : ys = [] := List.eq_nil_of_length_eq_zero h0
    subst hys
    refine wpList_plain hgd fun K hK => ?_
    have hrun : (Builtin.append_ #[54, 54] o.type #[v, .slice A 0 c]).run Try.prog w = .ok v w := by
      rcases h.1.2 with ⟨rfl, hx0⟩ | ⟨g, cap, cur, rfl, _, _, hnc, _⟩
      · cases A <;> simp [Builtin.append_, run_underlying Try.underlying54, sizeOf, typeInfo, hi, Builtin.lenOf, Builtin.firstCells, loadCells, loadCellsFrom, Result.andThen]
      · cases A <;> simp [Builtin.append_, run_underlying Try.underlying54, sizeOf, typeInfo, hi, Builtin.lenOf, Builtin.firstCells, hnc, storeCells, loadCells, loadCellsFrom, Result.andThen]
    simp only [List.length_nil] at hx
    unfold Oper.wp
    simp [execOp, ho, resolve, invoke, builtin, hs, hx, hrun, Result.andThen]
    exact hK _ _ (k v w T (by simpa using h) (fun j hj => .inl hj) (Only.refl _ _) hsn)
  · obtain ⟨y0, hy0⟩ := getx ys 0 h0
    obtain ⟨b, off, rfl, _⟩ := hA 0 y0 hy0
    refine wpList_append_lies w hgd s x 54 ho w0.heap.size 56 i0 _ 2 16 Try.underlying54 hi hz0 hz1 hz2 rfl (by decide) v xs.length (xs.flatMap encE) hs h.1 ⟨b, off, none⟩ ys.length c (ys.flatMap encE) hx (encE_len ys)
      (by
        intro j u hj
        have hj2 := lt_of_get hj
        rw [encE_len] at hj2
        obtain ⟨e, he⟩ := getx ys (j / 2) (by omega)
        obtain ⟨b', off', e', c1, c2⟩ := hA (j / 2) e he
        cases e'
        obtain ⟨g1, g2⟩ := encE_get he
        rw [Go.Addr.add_lit]
        rcases Nat.mod_two_eq_zero_or_one j with hm | hm
        · have e1 : j / 2 * 2 = j := by omega
          rw [e1] at c1 g1
          rw [g1] at hj
          rw [c1]; exact hj
        · have e1 : j / 2 * 2 + 1 = j := by omega
          rw [e1] at g2
          rw [show off + j / 2 * 2 + 1 = off + j by omega] at c2
          rw [g2] at hj
          rw [c2]; exact hj) (by intro u hu; obtain ⟨x, _, hx⟩ := List.mem_flatMap.1 hu; simp [encE] at hx; rcases hx with rfl | rfl <;> rfl) h0 (by unfold maxLen; omega) (by omega) hsn.below.size w.heap.size rfl ?_
    intro g cap w' q1 q2 q3 q4
    have hT := h.2
    refine k _ w' _ ⟨?_, rfl⟩ ?_ (by rw [hT]; exact Only.of_grown q2) (Below.grown hsn q2 hsn.below.size (fun q hq => (hlt q hq).1))
    · rw [List.flatMap_append, List.length_append]
      exact q1
    · intro j hj
      simp [Value.ownBlock] at hj
      subst hj
      rcases q3 with q3 | q3
      · left; rw [hT, q3]; simp
      · exact .inr q3
/-- a row of rows, one row more -/
theorem OwnRows.snocC {β : Type} {R : World → Nat → Value → β → List Nat → Prop} {e : TypeId} (L : RowLaw R) {w w' : World} {base g cap : Nat} {v u : Value} {xs : List β} {x : β} {S T : List Nat} (h : OwnRows e R w base v xs S) (hu : R w base u x T) (hd : ∀ j ∈ T, j ∉ S)
    (vs : List Value) (Ss : List (List Nat)) (h1 : w.ownsRow base e 1 v xs.length vs) (h2 : Ss.length = xs.length) (h3 : ∀ (k : Nat) u x T, vs[k]? = some u → xs[k]? = some x → Ss[k]? = some T → R w base u x T) (h4 : S = v.ownBlock.toList ++ Ss.flatten) (h5 : S.Nodup)
    (q1 : w'.ownsRow base e 1 (.slice (some ⟨g, 0, none⟩) (xs.length + 1) cap) (xs.length + 1) (vs ++ [u])) (q2 : w.grownBy w' v.ownBlock) (q3 : v.ownBlock = some g ∨ g = w.heap.size) :
    ∃ S', OwnRows e R w' base (.slice (some ⟨g, 0, none⟩) (xs.length + 1) cap) (xs ++ [x]) S' ∧ (∀ j ∈ S', j ∈ S ∨ j ∈ T ∨ j = w.heap.size) := by
  have hS := (rows_law e L).range h
  have hTr := L.range hu
  have hvl : vs.length = xs.length := by simpa using h1.1
  have h5' := h5
  rw [h4, List.nodup_append] at h5'
  have hin : ∀ j ∈ Ss.flatten, j ∈ S := fun j hj => by rw [h4]; exact List.mem_append_right _ hj
  have hon := Only.of_grown q2
  have hnv : ∀ j ∈ Ss.flatten, j ∉ v.ownBlock.toList := fun j hj hv => h5'.2.2 j hv j hj rfl
  have hTv : ∀ j ∈ T, j ∉ v.ownBlock.toList := fun j hj hv => hd j hj (by rw [h4]; exact List.mem_append_left _ hv)
  have hg : g ∉ Ss.flatten := fun hg => by
    rcases q3 with q3 | q3
    · exact hnv g hg (by rw [q3]; simp)
    · have := (hS g (hin g hg)).2; omega
  have hgT : g ∉ T := fun hg => by
    rcases q3 with q3 | q3
    · exact hTv g hg (by rw [q3]; simp)
    · have := (hTr g hg).2; omega
  refine ⟨[g] ++ (Ss ++ [T]).flatten, ⟨vs ++ [u], Ss ++ [T], ?_, by simp [h2], ?_, by simp [Value.ownBlock], ?_⟩, ?_⟩
  · rw [List.length_append]; exact q1
  · intro k u' x' T' hu' hx' hT'
    rcases Nat.lt_or_ge k xs.length with hk | hk
    · rw [List.getElem?_append_left (by omega)] at hu' hx' hT'
      exact L.only (h3 k u' x' T' hu' hx' hT') hon (fun j hj => hnv j (List.mem_flatten.2 ⟨T', List.mem_of_getElem? hT', hj⟩))
    · have hk1 : k = xs.length := by
        have := lt_of_get hx'
        simp at this; omega
      subst hk1
      rw [List.getElem?_append_right (Nat.le_refl _), Nat.sub_self] at hx'
      rw [← hvl, List.getElem?_append_right (Nat.le_refl _), Nat.sub_self] at hu'
      rw [← h2, List.getElem?_append_right (Nat.le_refl _), Nat.sub_self] at hT'
      simp at hu' hx' hT'
      subst hu' hx' hT'
      exact L.only hu hon hTv
  · rw [List.flatten_append, List.nodup_append]
    refine ⟨by simp, ?_, ?_⟩
    · rw [List.nodup_append]
      refine ⟨h5'.2.1, by simpa using L.nodup hu, ?_⟩
      intro a ha b hb e
      simp at hb
      subst e
      exact hd a hb (hin a ha)
    · intro a ha b hb e
      simp at ha
      subst e ha
      rcases List.mem_append.1 hb with hb | hb
      · exact hg hb
      · simp at hb; exact hgT hb
  · intro j hj
    rw [List.flatten_append] at hj
    rcases List.mem_append.1 hj with hj | hj
    · simp at hj
      subst hj
      rcases q3 with q3 | q3
      · left; rw [h4, q3]; simp
      · exact .inr (.inr q3)
    · rcases List.mem_append.1 hj with hj | hj
      · exact .inl (hin j hj)
      · simp at hj; exact .inr (.inl hj)
/-- append of a row to a network's ends -/
theorem app_rowN {w wT : World} {ops : Array Oper} {rest : List Oper} {o : Oper} {a : Act} {Q : Exit → Act → World → Prop} (hgd : o.guard = none) (s x : Operand)
    (ho : o.op = .call { callee := .builtin .append, args := #[s, x], argTypes := #[29, 29] }) {base : Nat} {v ui un u : Value} {N : Net} {S T : List Nat} {es : List (Int × Int)} (hs : a.eval s = v) (h : OwnNet w base v ui un N S)
    (b : Nat) (hx : a.eval x = .slice (some ⟨b, 0, none⟩) 1 1) (hc : w.cell? ⟨b, 0, none⟩ = some u) (hu : OwnE w base u es T) (hd : ∀ j ∈ T, j ∉ S) (hl : N.ends.length + 1 ≤ 1000000) (hsn : Since wT w) (hbs : base ≤ w.heap.size) (hvT : ∀ q, v.ownBlock = some q → wT.heap.size ≤ q)
    (k : ∀ v' w' S', (∀ q, v'.ownBlock = some q → v.ownBlock = some q ∨ q = w.heap.size) → OwnNet w' base v' ui un { N with ends := N.ends ++ [es] } S' → (∀ j ∈ S', j ∈ S ∨ j ∈ T ∨ j = w.heap.size) → Only S w w' → Since wT w' → wpList Try.prog ops Q rest (a.put o.dst v') w') : wpList Try.prog ops Q (o :: rest) a w := by
  obtain ⟨i0, hi, hz0, hz1, hz2⟩ := info_parts es_info
  have hrg := h.range
  obtain ⟨S1, S2, S3, h1, h2, h3, h4, h5⟩ := h
  have h1b := h1
  obtain ⟨vs, Ss, r1, r2, r3, r4, r5⟩ := h1
  obtain ⟨A, m, c, rfl⟩ := lawE.one hu
  refine wpList_append_lies w hgd s x 29 ho base 54 i0 _ 1 24 Try.underlying29 hi hz0 hz1 hz2 rfl (by decide) v N.ends.length vs hs r1 ⟨b, 0, none⟩ 1 1 [.slice A m c] hx rfl
    (by intro j u hj; match j, hj with | 0, hj => (simp at hj; subst hj; simpa [Addr.add] using hc) | j + 1, hj => simp at hj) (by simp [Value.oneCell']) (by omega) (by unfold maxLen; omega) (by omega) hbs w.heap.size rfl ?_
  intro g cap w' q1 q2 q3 q4
  rw [h4, List.nodup_append] at h5
  obtain ⟨n1, n2, n3⟩ := h5
  have hd1 : ∀ j ∈ T, j ∉ S1 := fun j hj hS => hd j hj (by rw [h4]; exact List.mem_append_left _ hS)
  obtain ⟨S1', o1, hS1⟩ := OwnRows.snocC lawE h1b hu hd1 vs Ss r1 r2 r3 r4 r5 q1 q2 q3
  have hon := Only.of_grown q2
  have hvS : ∀ j ∈ v.ownBlock.toList, j ∈ S1 := fun j hj => by rw [r4]; exact List.mem_append_left _ hj
  have d : ∀ j ∈ S2 ++ S3, j ∉ v.ownBlock.toList := fun j hj hv => n3 j (hvS j hv) j hj rfl
  refine k _ w' (S1' ++ (S2 ++ S3)) (fun q hq => by simp [Value.ownBlock] at hq; subst hq; exact q3) ⟨S1', S2, S3, ?_, lawI.only h2 hon (fun j hj => d j (List.mem_append_left _ hj)), lawI.only h3 hon (fun j hj => d j (List.mem_append_right _ hj)), rfl, ?_⟩ ?_ (hon.mono fun j hj => by rw [h4]; exact List.mem_append_left _ (hvS j hj)) (Below.grown hsn q2 hsn.below.size hvT)
  · exact o1
  · rw [List.nodup_append]
    refine ⟨lawEE.nodup o1, n2, fun a ha b hb hab => ?_⟩
    subst hab
    rcases hS1 a ha with h | h | h
    · exact n3 a h a hb rfl
    · exact hd a h (by rw [h4]; exact List.mem_append_right _ hb)
    · have := (hrg a (by rw [h4]; exact List.mem_append_right _ hb)).2
      omega
  · intro j hj
    rcases List.mem_append.1 hj with hj | hj
    · rcases hS1 j hj with h | h | h
      · exact .inl (by rw [h4]; exact List.mem_append_left _ h)
      · exact .inr (.inl h)
      · exact .inr (.inr h)
    · exact .inl (by rw [h4]; exact List.mem_append_right _ hj)
/-- ends stored in the row of a network -/
theorem OwnNet.setEnd {w : World} {base g c n : Nat} {vi vn : Value} {N : Net} {S : List Nat} (h : OwnNet w base (.slice (some ⟨g, 0, none⟩) n c) vi vn N S) {k j : Nat} {es : List (Int × Int)} (hx : N.ends[k]? = some es) (hj : j < es.length) :
    ∃ gr cr, w.cell? ⟨g, k, none⟩ = some (.slice (some ⟨gr, 0, none⟩) es.length cr) ∧ es.length ≤ cr ∧ cr ≤ maxLen ∧ g ∈ S ∧ gr ∈ S ∧ g ≠ gr ∧ (w.frozen? ⟨gr, j * 2, none⟩ = false ∧ w.frozen? ⟨gr, j * 2 + 1, none⟩ = false) ∧ (∃ z, w.cell? ⟨gr, j * 2, none⟩ = some z) ∧ (∃ z, w.cell? ⟨gr, j * 2 + 1, none⟩ = some z) ∧
      ∀ y : Int × Int, OwnNet ((w.setCell ⟨gr, j * 2, none⟩ (.int .i64 y.1)).setCell ⟨gr, j * 2 + 1, none⟩ (.int .i64 y.2)) base (.slice (some ⟨g, 0, none⟩) n c) vi vn { N with ends := N.ends.set k (es.set j y) } S := by
  obtain ⟨S1, S2, S3, h1, h2, h3, h4, h5⟩ := h
  obtain ⟨u, T, hu, hR, hT, hup⟩ := OwnRows.touch lawE h1 hx
  have hnd := (rows_law _ lawE).nodup h1
  obtain ⟨_, _, _, _, _, hdis, _, hg1⟩ := OwnRows.at_ h1 hx
  rw [h4, List.nodup_append] at h5
  obtain ⟨n1, n2, n3⟩ := h5
  have hR' := hR.1
  rcases ownsRow_cases hR.1 with ⟨rfl, h0⟩ | ⟨gr, cr, rfl, hb1, hb2, hb3, hb4⟩
  · omega
  · have hgrT : gr ∈ T := by rw [hR.2]; simp [Value.ownBlock]
    obtain ⟨y0, hy0⟩ := getx es j hj
    obtain ⟨c1, c2, ff⟩ := OwnE.cells hR hy0
    have hne : g ≠ gr := fun e => by
      subst e
      obtain ⟨vs, Ss, e1, _⟩ := h1
      rcases e1.2 with ⟨h0, _⟩ | ⟨q', cap', cur', h0, _, hc', _⟩
      · cases h0
      · cases h0
        rcases hR'.2 with ⟨h0, _⟩ | ⟨q'', cap'', cur'', h0, _, hc'', _⟩
        · cases h0
        · cases h0
          rw [hc'] at hc''
          simp at hc''
    refine ⟨gr, cr, hu, hb3, hb4, by rw [h4]; exact List.mem_append_left _ hg1, by rw [h4]; exact List.mem_append_left _ (hT gr hgrT), hne, ff, ⟨_, c1⟩, ⟨_, c2⟩, fun y => ?_⟩
    have hon : Only T w ((w.setCell ⟨gr, j * 2, none⟩ (.int .i64 y.1)).setCell ⟨gr, j * 2 + 1, none⟩ (.int .i64 y.2)) := ((Only.refl _ _).setCell (.inl hgrT) _).setCell (.inl hgrT) _
    have d : ∀ q ∈ S2 ++ S3, q ∉ T := fun q hq hqT => n3 q (hT q hqT) q hq rfl
    exact ⟨S1, S2, S3, hup _ _ (OwnE.set hR hj y) hon, lawI.only h2 hon (fun q hq => d q (List.mem_append_left _ hq)), lawI.only h3 hon (fun q hq => d q (List.mem_append_right _ hq)), h4, by rw [h4, List.nodup_append]; exact ⟨n1, n2, n3⟩⟩
theorem trunc_box {w : World} {b : Nat} {x y z : Value} (h : BoxN w b x y z) : BoxN (trunc w (b + 1)) b x y z := by
  have := h.lt
  unfold BoxN at h ⊢
  simp only [trunc, Array.getElem?_extract]
  rw [if_pos (by omega)]
  simpa using h
theorem BoxN.only {S : List Nat} {W W' : World} {b : Nat} {x y z : Value} (h : BoxN W b x y z) (ho : Only S W W') (hb : b ∉ S) : BoxN W' b x y z := (ho.block b h.lt hb).trans h
theorem BoxN.put0 {W : World} {b : Nat} {x y z : Value} (h : BoxN W b x y z) (u : Value) : BoxN (W.setCell ⟨b, 0, none⟩ u) b u y z := by
  unfold BoxN at h ⊢
  simp [World.setCell, Array.getElem?_modify, h]
theorem BoxN.put1 {W : World} {b : Nat} {x y z : Value} (h : BoxN W b x y z) (u : Value) : BoxN (W.setCell ⟨b, 1, none⟩ u) b x u z := by
  unfold BoxN at h ⊢
  simp [World.setCell, Array.getElem?_modify, h]
theorem BoxN.put2 {W : World} {b : Nat} {x y z : Value} (h : BoxN W b x y z) (u : Value) : BoxN (W.setCell ⟨b, 2, none⟩ u) b x y u := by
  unfold BoxN at h ⊢
  simp [World.setCell, Array.getElem?_modify, h]
theorem BoxN.other {W : World} {b : Nat} {x y z u : Value} {a : Addr} (h : BoxN W b x y z) (ha : b ≠ a.block) : BoxN (W.setCell a u) b x y z := (Below.heap_setCell W a u b ha).trans h
theorem ownNet_of {w : World} {base : Nat} {v ui un : Value} {ess : List (List (Int × Int))} {ids ins : List Int} {S1 : List Nat} (hE : OwnEE w base v ess S1) (h1 : Own w base ui ids) (h2 : Own w base un ins)
    (d1 : ∀ j ∈ S1, ui.ownBlock ≠ some j) (d2 : ∀ j ∈ S1, un.ownBlock ≠ some j) (d3 : ∀ j, ui.ownBlock = some j → un.ownBlock ≠ some j) :
    OwnNet w base v ui un ⟨ess, ids, ins⟩ (S1 ++ (ui.ownBlock.toList ++ un.ownBlock.toList)) := by
  refine ⟨S1, _, _, hE, ⟨h1, rfl⟩, ⟨h2, rfl⟩, rfl, ?_⟩
  rw [List.nodup_append, List.nodup_append]
  refine ⟨lawEE.nodup hE, ⟨by cases ui.ownBlock <;> simp, by cases un.ownBlock <;> simp, ?_⟩, ?_⟩
  · intro a ha b hb e
    subst e
    exact d3 a (by simpa using ha) (by simpa using hb)
  · intro a ha b hb e
    subst e
    rcases List.mem_append.1 hb with hb | hb
    · exact d1 a ha (by simpa using hb)
    · exact d2 a ha (by simpa using hb)
theorem app_zeroI {w : World} {ops : Array Oper} {rest : List Oper} {o : Oper} {a : Act} {Q : Exit → Act → World → Prop} (hgd : o.guard = none) (s x : Operand)
    (ho : o.op = .call { callee := .builtin .append, args := #[s, x], argTypes := #[23, 23] }) {base : Nat} {v : Value} {xs : List Int} (hs : a.eval s = v) (h : Own w base v xs) (A : Option Addr) (c : Nat) (hx : a.eval x = .slice A 0 c)
    (k : wpList Try.prog ops Q rest (a.put o.dst v) w) : wpList Try.prog ops Q (o :: rest) a w := by
  obtain ⟨i0, hi, hz0, hz1, hz2⟩ := info_parts int_info
  refine wpList_plain hgd fun K hK => ?_
  have hrun : (Builtin.append_ #[23, 23] o.type #[v, .slice A 0 c]).run Try.prog w = .ok v w := by
    rcases h.2 with ⟨rfl, hx0⟩ | ⟨g, cap, cur, rfl, _, _, hnc, _⟩
    · cases A <;> simp [Builtin.append_, run_underlying Try.underlying23, sizeOf, typeInfo, hi, Builtin.lenOf, Builtin.firstCells, loadCells, loadCellsFrom, Result.andThen]
    · cases A <;> simp [Builtin.append_, run_underlying Try.underlying23, sizeOf, typeInfo, hi, Builtin.lenOf, Builtin.firstCells, hnc, storeCells, loadCells, loadCellsFrom, Result.andThen]
  unfold Oper.wp
  simp [execOp, ho, resolve, invoke, builtin, hs, hx, hrun, Result.andThen]
  exact hK _ _ k
theorem ownE_lit0 (w : World) : OwnE (w.alloc (.cells #[] 56)) w.heap.size (.slice (some ⟨w.heap.size, 0, none⟩) 0 0) [] [w.heap.size] := by
  have := World.ownsRow_lit (base := w.heap.size) (e := 56) (size := 2) w #[] 0 (Nat.le_refl _) (by simp [maxLen]) (by simp)
  exact ⟨this, rfl⟩
set_option maxHeartbeats 1000000 in
theorem l1Own_all (v : Value) (xs : List Int) (w : World) (h : IntS w v xs) (hl : xs.length ≤ 17592186044416) :
    Calls Try.prog 88 #[v] w fun e w' => ∃ u, e = .returned u ∧ Own w' w.heap.size u xs ∧ Below w.heap.size w w' := by
  rcases Nat.eq_zero_or_pos xs.length with h0 | h0
  · obtain rfl : xs = [] := List.eq_nil_of_length_eq_zero h0
    obtain ⟨A, c, rfl, hlc, hm, _⟩ := h
    have ho := own_lit w [] (by simp [maxLen])
    simp only [List.map_nil, List.length_nil] at ho
    have Ho := Lib.hid ho
    clear ho
    go_enter Try.func88, Try.ntmps88
    go_wp2_with (at_builtin; refine app_zeroI rfl _ _ rfl rfl Ho.out A c rfl ?_)
    go_wp2
    go_ret
    exact ⟨_, rfl, Ho.out, below_alloc _ _⟩
  · exact l1Own_any v xs w h h0 hl
end Go.Proofs.Ytomnaabadohecaa
