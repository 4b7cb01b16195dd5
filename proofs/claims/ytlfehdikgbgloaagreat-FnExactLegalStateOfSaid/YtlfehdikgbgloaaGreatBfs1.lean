import Derived.Test.YtlfehdikgbgloaaGreatBfsPlain
import Derived.Test.YtlfehdikgbgloaaGreatChain
import Derived.Test.YtlfehdikgbgloaaGreatDel
import Derived.Test.YtlfehdikgbgloaaGreatFlow5
namespace Go.Proofs.YtlfehdikgbgloaaGreat
open Go.RowKit
theorem own_oth {W : World} {base b k : Nat} {u : Value} {xs : List Int} (h : Own W base u xs) (hd : u.ownBlock ≠ some b) (v : Value) : Own (W.setCell ⟨b, k, none⟩ v) base u xs :=
  ownsRow_stable h fun j hj => Below.heap_setCell W _ v j (fun e => hd (by simp at hj; rw [hj, e]))
theorem getD_at {ls : List Int} {v : Nat} (h : v < ls.length) : ls[v]? = some (ls.getD v 0) := by rw [List.getD_eq_getElem?_getD, List.getElem?_eq_getElem h]; rfl
theorem pre_at {xs ys zs : List Int} {i : Nat} {x : Int} (h : zs = xs ++ ys) (hx : xs[i]? = some x) : zs[i]? = some x := by
  rw [h, List.getElem?_append_left (lt_of_get hx)]; exact hx
set_option maxRecDepth 100000 in
set_option maxHeartbeats 16000000 in
theorem meFrom_any (ve vi vn : Value) (n : Net) (v : Nat) (w : World) (h : NetIn w ve vi vn n) (hn : netOk n = true) (hv : v < n.ends.length) :
    Calls Tryz.prog 213 #[.agg #[ve, vi, vn], .int .i64 v] w fun e w' => ∃ u, e = .returned u ∧ Own w' w.heap.size u (distB n v) ∧ Below w.heap.size w w' := by
  have hnl := netOk_len hn
  have Hn := Lib.hid hn
  obtain ⟨w0, hw0⟩ : ∃ w0, w0 = (w).alloc (.cells #[ve, vi, vn] 31) := ⟨_, rfl⟩
  have hb0 : Below w.heap.size w w0 := by rw [hw0]; exact ((Below.refl _ _).alloc (by simp) _)
  have H := Lib.hid (h.keep hb0)
  obtain ⟨h1, h2, h3⟩ := h.keep hb0
  obtain ⟨A, c, rfl, hlc, hm, hA⟩ := h1
  obtain ⟨A2, c2, rfl, _, hm2, _⟩ := h2
  obtain ⟨A3, c3, rfl, _, hm3, _⟩ := h3
  unfold maxLen at hm hm2 hm3
  have p00 : ∀ W, Since w0 W → W.cell? ⟨w.heap.size, 0, none⟩ = some (.slice A n.ends.length c) := have_cell (by rw [hw0]; simp)
  have p01 : ∀ W, Since w0 W → W.cell? ⟨w.heap.size, 1, none⟩ = some (.slice A2 n.ids.length c2) := have_cell (by rw [hw0]; simp)
  have p02 : ∀ W, Since w0 W → W.cell? ⟨w.heap.size, 2, none⟩ = some (.slice A3 n.inputs.length c3) := have_cell (by rw [hw0]; simp)
  have Hb0 := Lib.hid hb0
  have Hw0 := Lib.hid hw0
  have HA := Lib.hid hA
  clear hA h
  clear hb0 hw0
  obtain ⟨cA, hcA⟩ : ∃ x, x = c := ⟨_, rfl⟩
  subst hcA
  obtain ⟨R, hR⟩ : ∃ R, R = distB n v := ⟨_, rfl⟩
  have HR := Lib.hid hR
  rw [← hR]
  have hs0 : Since w0 w0 := since_refl _
  clear hn hR
  go_enter Tryz.func213, Tryz.ntmps213
  go_upto_region 1 with (fail)
  rw [← Hw0.out]
  go_wp2_with (at_make; refine mk_ints _ rfl _ _ rfl _ _ n.ends.length rfl rfl rfl rfl (by omega) ?_; intro w1 ho1 hb1 hz1)
  obtain ⟨g, hg⟩ : ∃ g, g = w0.heap.size := ⟨_, rfl⟩
  rw [← hg] at ho1 hz1 ⊢
  have Hg := Lib.hid hg
  clear hg hz1
  go_wp2
  go_loopw [17] (fun i wr => ∃ k : Nat, k ≤ n.ends.length ∧ i = .int .i64 k ∧ Own wr w0.heap.size (.slice (some ⟨g, 0, none⟩) n.ends.length n.ends.length) (List.replicate k (-1) ++ List.replicate (n.ends.length - k) 0) ∧ Since w0 wr) (fun i _ => n.ends.length - (intOf i).toNat)
  case atStart => exact ⟨0, Nat.zero_le _, rfl, by have := ho1; simpa [Hg.out] using this, hb1⟩
  case round =>
    obtain ⟨k, hk, rfl, ho, hs⟩ := hrel
    have Ho := Lib.hid ho
    have Hs := Lib.hid hs
    clear ho1 hb1 ho hs hs0
    by_cases hlt : k < n.ends.length
    · obtain ⟨y, hy⟩ := getx (List.replicate k (-1 : Int) ++ List.replicate (n.ends.length - k) 0) k (by simp; omega)
      have cz := Ho.out.cell hy
      have fz := Ho.out.free k
      clear hy
      go_wp2
      go_roundw
      case rel =>
        refine ⟨k + 1, by omega, by go_num, ?_, Below.setCell Hs.out (by show w0.heap.size ≤ g; rw [Hg.out]; exact Nat.le_refl _) _⟩
        have := Ho.out.set (k := k) (-1)
        have e : (List.replicate k (-1 : Int) ++ List.replicate (n.ends.length - k) 0).set k (-1) = List.replicate (k + 1) (-1) ++ List.replicate (n.ends.length - (k + 1)) 0 := by
          rw [List.set_append_right _ _ (by simp), List.length_replicate, Nat.sub_self, show n.ends.length - k = (n.ends.length - (k + 1)) + 1 by omega, List.replicate_succ, List.set_cons_zero, List.replicate_succ', List.append_assoc]
          rfl
        rwa [e] at this
      case measure => simp [intOf]; omega
    · obtain rfl : k = n.ends.length := by omega
      have Ho2 : Hid (Own wr w0.heap.size (.slice (some ⟨g, 0, none⟩) n.ends.length n.ends.length) (List.replicate n.ends.length (-1))) := by
        have := Ho.out
        rwa [Nat.sub_self, List.replicate_zero, List.append_nil] at this
      have cz := Ho2.out.cell (getD_at (show v < (List.replicate n.ends.length (-1 : Int)).length by simpa using hv))
      have fz := Ho2.out.free v
      have Hgw : Hid (w0.heap.size ≤ g) := by rw [Hg.out]; exact Nat.le_refl _
      obtain ⟨w3, hw3⟩ : ∃ w3, w3 = wr.setCell ⟨g, v, none⟩ (.int .i64 0) := ⟨_, rfl⟩
      have Ho3 : Hid (Own w3 w0.heap.size (.slice (some ⟨g, 0, none⟩) n.ends.length n.ends.length) (bfsStart n v).1) := by rw [hw3]; exact Ho2.out.set (k := v) 0
      have Hs3 : Hid (Since w0 w3) := by rw [hw3]; exact Below.setCell Hs.out Hgw.out _
      obtain ⟨g2, hg2⟩ : ∃ g2, g2 = wr.heap.size := ⟨_, rfl⟩
      have e3 : w3.heap.size = wr.heap.size := by rw [hw3]; simp
      obtain ⟨w4, hw4⟩ : ∃ w4, w4 = w3.alloc (.cells #[.int .i64 v] 3) := ⟨_, rfl⟩
      have Ho4 : Hid (Own w4 w0.heap.size (.slice (some ⟨g, 0, none⟩) n.ends.length n.ends.length) (bfsStart n v).1) := by rw [hw4]; exact Ho3.out.since (since_alloc _ (since_refl _))
      have Hu4 : Hid (Own w4 w0.heap.size (.slice (some ⟨g2, 0, none⟩) (bfsStart n v).2.length 1) (bfsStart n v).2) := by
        rw [hw4, hg2, ← e3]
        have := own_lit w3 [(v : Int)] (by simp [maxLen])
        exact this.mono Hs3.out.below.size
      have Hs4 : Hid (Since w0 w4) := by rw [hw4]; exact since_alloc _ Hs3.out
      have hgg : g2 ≠ g := by have := (World.ownsRow.lt Ho3.out g rfl).2; omega
      clear e3
      have Hw3 := Lib.hid hw3
      have Hw4 := Lib.hid hw4
      have Hg2 := Lib.hid hg2
      clear hw3 hw4 hg2
      go_upto_region 9 with (fail)
      rw [← Hw3.out, ← Hg2.out, ← Hw4.out]
      clear cz fz
      go_wp2
      go_loopw [7, 8] (fun u i wr => ∃ (f k : Nat) (st : List Int × List Int) (gu cu : Nat), i = .int .i64 k ∧ u = .slice (some ⟨gu, 0, none⟩) st.2.length cu ∧ gu ≠ g ∧ BI n.ends.length st ∧ bfs n f st k = R ∧ n.ends.length + 1 ≤ f + k ∧ k ≤ st.2.length ∧ Own wr w0.heap.size (.slice (some ⟨g, 0, none⟩) n.ends.length n.ends.length) st.1 ∧ Own wr w0.heap.size u st.2 ∧ Since w0 wr) (fun _ i _ => n.ends.length + 1 - (intOf i).toNat)
      case atStart => exact ⟨n.ends.length + 1, 0, bfsStart n v, g2, 1, rfl, rfl, hgg, BI.start hv, HR.out.symm, by omega, Nat.zero_le _, Ho4.out, Hu4.out, Hs4.out⟩
      case round =>
        obtain ⟨f, k, st, gu, cu, rfl, rfl, hgu, hbi, hbr, hf, hk, ho, hou, hs⟩ := hrel
        have HBI := Lib.hid hbi
        have Hbr := Lib.hid hbr
        have Ho := Lib.hid ho
        have Hou := Lib.hid hou
        have Hs := Lib.hid hs
        have hbd := hbi.bd
        clear hbi hbr ho hou hs hgg
        by_cases hlt : k < st.2.length
        · obtain ⟨f, rfl⟩ : ∃ f', f = f' + 1 := ⟨f - 1, by omega⟩
          obtain ⟨x, hx⟩ := getx st.2 k hlt
          have hxin := HBI.out.walk x (List.mem_of_getElem? hx)
          obtain ⟨c, rfl⟩ := Int.eq_ofNat_of_zero_le hxin.1
          have hc : c < n.ends.length := by omega
          have cx := have_cell (Hou.out.cell hx)
          have Hxin := Lib.hid hxin
          have Hxd : Hid (st.2.getD k 0 = (c : Int)) := by show _ = _; rw [List.getD_eq_getElem?_getD, hx]; rfl
          have Hx := Lib.hid hx
          obtain ⟨es, hes⟩ := getx n.ends c hc
          obtain ⟨hes6, -⟩ := netOk_row Hn.out hes
          have Hes := Lib.hid hes
          obtain ⟨see, hsee⟩ : ∃ s, s = bsee n c := ⟨_, rfl⟩
          have Hse2 : Hid (es.map (·.1) = see) := by show _ = _; rw [hsee, bsee, Int.toNat_natCast, List.getD_eq_getElem?_getD, hes]; rfl
          have Hsin : Hid (∀ y ∈ see, 0 ≤ y ∧ y < n.ends.length) := by rw [hsee]; exact see_in Hn.out Hxin.out
          have Hsee := Lib.hid hsee
          have hs6 : see.length ≤ 6 := by rw [← Hse2.out, List.length_map]; exact hes6
          have Hcall : Hid (∀ W, Since wr W → Calls Tryz.prog 112 #[.agg #[.slice A n.ends.length cA, .slice A2 n.ids.length c2, .slice A3 n.inputs.length c3], .int .i64 c] W fun e w' => ∃ u, e = .returned u ∧ Own w' wr.heap.size u see ∧ Below W.heap.size W w') := fun W hW => by
            have := neNear_any _ _ _ n c es W (H.out.keep (Hs.out.after hW).below) Hes.out (by omega)
            rw [Hse2.out] at this
            exact this.mono fun e w' ⟨u, h1, h2, h3⟩ => ⟨u, h1, h2.mono (Since.below hW).size, h3⟩
          have q0 := lift_cell p00 Hs.out
          have q1 := lift_cell p01 Hs.out
          have q2 := lift_cell p02 Hs.out
          clear hx hxin hes hsee
          go_upto_region 12 with (fail)
          refine wp_region_chain (w0 := wr) 8 [false, false, false, false, false, true, true, false] (by kernel_rfl) (by kernel_rfl) (since_refl _) ?_
          simp only [selF, selT, List.take_succ_cons, List.take_zero, List.drop_succ_cons, List.drop_zero]
          refine pflow_val (v := ?_) rfl ?_ ?_; rotate_left; (intro W hW; go_simp; with_reducible rfl)
          simp only [Act.put, List.setIfInBounds_toArray, List.set_cons_succ, List.set_cons_zero]
          refine pflow_val (v := ?_) rfl ?_ ?_; rotate_left; (intro W hW; go_simp; with_reducible rfl)
          simp only [Act.put, List.setIfInBounds_toArray, List.set_cons_succ, List.set_cons_zero]
          refine pflow_val (v := ?_) rfl ?_ ?_; rotate_left; (intro W hW; go_simp; with_reducible rfl)
          simp only [Act.put, List.setIfInBounds_toArray, List.set_cons_succ, List.set_cons_zero]
          refine pflow_val (v := ?_) rfl ?_ ?_; rotate_left; (intro W hW; go_simp; with_reducible rfl)
          simp only [Act.put, List.setIfInBounds_toArray, List.set_cons_succ, List.set_cons_zero]
          refine pflow_val (v := ?_) rfl ?_ ?_; rotate_left; (intro W hW; go_simp; with_reducible rfl)
          simp only [Act.put, List.setIfInBounds_toArray, List.set_cons_succ, List.set_cons_zero]
          refine pflow_val (v := ?_) rfl ?_ ?_; rotate_left; (intro W hW; go_simp; with_reducible rfl)
          simp only [Act.put, List.setIfInBounds_toArray, List.set_cons_succ, List.set_cons_zero]
          intro W hW
          refine Or.inl ⟨rfl, ?_⟩
          go_simp
          (with_reducible refine (Hcall.out W hW).mono ?_)
          rintro e W' ⟨un, rfl, hon, hb⟩
          refine ⟨_, rfl, hW.trans hb, ?_⟩
          replace hW := hW.trans hb
          obtain ⟨Bn, dn, rfl, _⟩ := id hon.ints
          (try simp only [Act.put, List.setIfInBounds_toArray, List.set_cons_succ, List.set_cons_zero])
          refine tflow_val (v := ?_) rfl ?_ hW ?_; rotate_left; (go_simp; with_reducible rfl)
          simp only [Act.put, List.setIfInBounds_toArray, List.set_cons_succ, List.set_cons_zero]
          simp only [TFlow]
          have Hon := Lib.hid (hon.mono Hs.out.below.size)
          have hnr := fun q hq => (World.ownsRow.lt hon q hq).1
          have hng : (Value.slice Bn see.length dn).ownBlock ≠ some g := fun e => by have := hnr g e; have := (World.ownsRow.lt Ho.out g rfl).2; omega
          have hnu : (Value.slice Bn see.length dn).ownBlock ≠ some gu := fun e => by have := hnr gu e; have := (World.ownsRow.lt Hou.out gu rfl).2; omega
          have Ho5 := Lib.hid (Ho.out.since hW)
          have Hou5 := Lib.hid (Hou.out.since hW)
          have Hs5 := Lib.hid (Hs.out.after hW)
          have Hng := Lib.hid hng
          have Hnu := Lib.hid hnu
          have Hfw : Hid (∀ j, ∃ ys, ((see.take j).foldl (bstep c) st).2 = st.2 ++ ys) := fun j => fold_walk _ _ _
          clear hon hnr hng hnu hW cx q0 q1 q2
          go_wp2
          go_loopw [7, 42] (fun u i wr => ∃ (j gu cu : Nat) (st' : List Int × List Int), j ≤ see.length ∧ i = .int .i64 j ∧ st' = (see.take j).foldl (bstep c) st ∧ u = .slice (some ⟨gu, 0, none⟩) st'.2.length cu ∧ gu ≠ g ∧ BI n.ends.length st' ∧ Own wr w0.heap.size (.slice (some ⟨g, 0, none⟩) n.ends.length n.ends.length) st'.1 ∧ Own wr w0.heap.size u st'.2 ∧
            Own wr w0.heap.size (.slice Bn see.length dn) see ∧ (Value.slice Bn see.length dn).ownBlock ≠ some gu ∧ Since w0 wr) (fun _ i _ => see.length - (intOf i).toNat)
          case atStart => exact ⟨0, gu, cu, st, Nat.zero_le _, rfl, rfl, rfl, hgu, HBI.out, Ho5.out, Hou5.out, Hon.out, Hnu.out, Hs5.out⟩
          case round =>
            obtain ⟨j, gv, cv, st', hj, rfl, hst', rfl, hgv, hbi', ho', hou', hon', hnv, hs'⟩ := hrel
            have HBI' := Lib.hid hbi'
            have Ho' := Lib.hid ho'
            have Hou' := Lib.hid hou'
            have Hon' := Lib.hid hon'
            have Hs' := Lib.hid hs'
            have Hst' := Lib.hid hst'
            have Hnv := Lib.hid hnv
            have hbd' := hbi'.bd
            clear hst' hbi' ho' hou' hon' hs' hnv hgu
            by_cases hlj : j < see.length
            · obtain ⟨y, hy⟩ := getx see j hlj
              have hyin := Hsin.out y (List.mem_of_getElem? hy)
              obtain ⟨d, rfl⟩ := Int.eq_ofNat_of_zero_le hyin.1
              have hd : d < n.ends.length := by omega
              rcases Hon'.out.cases with ⟨-, e1⟩ | ⟨gn, cn, en, hgn1, hgn2⟩
              · rw [e1] at hlj; simp at hlj
              injection en with en1 en2 en3
              subst en1
              have cy := Hon'.out.cell hy
              have hl1 : st'.1.length = n.ends.length := HBI'.out.len
              have cd := Ho'.out.cell (getD_at (show d < st'.1.length by omega))
              have fd := Ho'.out.free d
              obtain ⟨z, hz⟩ : ∃ z, z = st'.1.getD d 0 := ⟨_, rfl⟩
              rw [← hz] at cd
              have Hz := Lib.hid hz
              have Hy := Lib.hid hy
              have Hnx : Hid ((see.take (j + 1)).foldl (bstep c) st = bstep c st' d) := by show _ = _; rw [fold_snoc hy, ← Hst'.out]
              have Hl1 := Lib.hid hl1
              have m3 : IntKind.i64.wrap ((j : Int) + 1) = (j : Int) + 1 := wr64 _ (by omega) (by omega)
              clear hz hy hyin hl1 en2 en3
              by_cases hneg : z < 0
              · have hcl : c < st'.1.length := by rw [Hl1.out]; exact hc
                obtain ⟨q, hq⟩ : ∃ q, q = st'.1.getD c 0 := ⟨_, rfl⟩
                have cq := Ho'.out.cell (getD_at hcl)
                rw [← hq] at cq
                have hqb : -1 ≤ q ∧ q < st'.2.length := by rw [hq]; exact HBI'.out.val _ (List.mem_of_getElem? (getD_at hcl))
                obtain ⟨ys, hys⟩ := Hfw.out j
                have cw := Hou'.out.cell (pre_at (show st'.2 = st.2 ++ ys by rw [Hst'.out]; exact hys) Hx.out)
                have hkl : k < st'.2.length := lt_of_get (pre_at (show st'.2 = st.2 ++ ys by rw [Hst'.out]; exact hys) Hx.out)
                have m4 : IntKind.i64.wrap (q + 1) = q + 1 := wr64 _ (by omega) (by omega)
                have Hnew : Hid (bstep c st' d = (st'.1.set d (q + 1), st'.2 ++ [(d : Int)])) := by show _ = _; unfold bstep; rw [Int.toNat_natCast, Int.toNat_natCast, ← Hz.out, if_pos hneg, ← hq]
                have HBn : Hid (BI n.ends.length (bstep c st' d)) := HBI'.out.step (by omega) (by omega)
                obtain ⟨w5, hw5⟩ : ∃ w5, w5 = wr.setCell ⟨g, d, none⟩ (.int .i64 (q + 1)) := ⟨_, rfl⟩
                have Ho5' : Hid (Own w5 w0.heap.size (.slice (some ⟨g, 0, none⟩) n.ends.length n.ends.length) (st'.1.set d (q + 1))) := by rw [hw5]; exact Ho'.out.set (k := d) (q + 1)
                have Hou5' : Hid (Own w5 w0.heap.size (.slice (some ⟨gv, 0, none⟩) st'.2.length cv) st'.2) := by rw [hw5]; exact own_oth Hou'.out (by simpa [Value.ownBlock] using hgv) _
                have Hon5' : Hid (Own w5 w0.heap.size (.slice (some ⟨gn, 0, none⟩) see.length dn) see) := by rw [hw5]; exact own_oth Hon'.out Hng.out _
                have Hs5' : Hid (Since w0 w5) := by rw [hw5]; exact Below.setCell Hs'.out Hgw.out _
                have Hw5 := Lib.hid hw5
                have Hgv := Lib.hid hgv
                have Hlen : Hid (st'.2.length + 1 ≤ 17592186044416) := by show _ ≤ _; omega
                clear hq hw5 hys
                go_upto_region 17 with (fail)
                rw [← Hw5.out]
                clear cy cd fd cq cw m4
                go_wp2_with (at_builtin; refine app_int rfl _ _ rfl rfl (Hou5'.out.since (since_alloc _ (since_refl _))) w5.heap.size d rfl (by simp [go_sem]) Hlen.out (by have := Hs5'.out.below.size; simp; omega) ?_; intro g7 c7 w7 ho7 hg7 hor7 _)
                change World.grownBy _ w7 (some gv) at hg7
                change (some gv = some g7 ∨ g7 = _) at hor7
                have Ho7 : Hid (Own w7 w0.heap.size (.slice (some ⟨g, 0, none⟩) n.ends.length n.ends.length) (st'.1.set d (q + 1))) := Own.grown (Ho5'.out.keep (below_alloc w5 _)) hg7 (fun x hx e => by simp [Value.ownBlock] at hx; cases e; exact Hgv.out hx.symm)
                have Hon7 : Hid (Own w7 w0.heap.size (.slice (some ⟨gn, 0, none⟩) see.length dn) see) := Own.grown (Hon5'.out.keep (below_alloc w5 _)) hg7 (fun x hx e => by cases e; exact Hnv.out hx)
                have Hou7 : Hid (Own w7 w0.heap.size (.slice (some ⟨g7, 0, none⟩) (st'.2.length + 1) c7) (st'.2 ++ [(d : Int)])) := ho7
                have Hgz := Lib.hid (World.ownsRow.lt Ho5'.out g rfl).2
                have Hgnz := Lib.hid (World.ownsRow.lt Hon5'.out gn rfl).2
                have Hg7 : Hid (g7 ≠ g) := by
                  rcases hor7 with e | e
                  · cases e; exact Hgv.out
                  · simp at e; exact fun e2 => by have := Hgz.out; omega
                have Hgn7 : Hid ((Value.slice (some ⟨gn, 0, none⟩) see.length dn).ownBlock ≠ some g7) := by
                  rcases hor7 with e | e
                  · cases e; exact Hnv.out
                  · simp at e; exact fun e2 => by simp [Value.ownBlock] at e2; have := Hgnz.out; omega
                have Hs7 : Hid (Since w0 w7) := Below.grown (show Below w0.heap.size w0 _ from since_alloc _ Hs5'.out) hg7 (by have := Hs5'.out.below.size; simp; omega) (fun x hx => by cases hx; exact (World.ownsRow.lt Hou5'.out gv rfl).1)
                clear ho7 hg7 hor7
                go_wp2
                go_roundw
                case rel => exact ⟨j + 1, g7, c7, bstep c st' d, by omega, by go_num, Hnx.out.symm, by rw [Hnew.out]; simp, Hg7.out, HBn.out, by rw [Hnew.out]; exact Ho7.out, by rw [Hnew.out]; exact Hou7.out, Hon7.out, Hgn7.out, Hs7.out⟩
                case measure => simp [intOf]; omega
              · have Hsame : Hid (bstep c st' d = st') := by show _ = _; unfold bstep; rw [Int.toNat_natCast, ← Hz.out, if_neg hneg]
                go_wp2
                go_roundw
                case rel => exact ⟨j + 1, gv, cv, st', by omega, by go_num, by rw [Hnx.out, Hsame.out], rfl, hgv, HBI'.out, Ho'.out, Hou'.out, Hon'.out, Hnv.out, Hs'.out⟩
                case measure => simp [intOf]; omega
            · obtain rfl : j = see.length := by omega
              have Hfin : Hid (st' = see.foldl (bstep c) st) := by show _ = _; rw [Hst'.out, List.take_length]
              have Hbn : Hid (bfs n f st' (k + 1) = R) := by
                show _ = _
                rw [← Hbr.out, bfs, if_pos hlt, Hxd.out, ← Hsee.out, ← Hfin.out]
              have Hlw : Hid (k + 1 ≤ st'.2.length) := by
                obtain ⟨ys, hys⟩ := Hfw.out see.length
                show _ ≤ _
                rw [Hst'.out, hys, List.length_append]
                omega
              have m3 : IntKind.i64.wrap ((k : Int) + 1) = (k : Int) + 1 := wr64 _ (by omega) (by omega)
              go_wp2
              go_roundw
              case rel => exact ⟨f, k + 1, st', gv, cv, by go_num, rfl, hgv, HBI'.out, Hbn.out, by omega, Hlw.out, Ho'.out, Hou'.out, Hs'.out⟩
              case measure => simp [intOf]; omega
        · have hRe : Hid (R = st.1) := by
            rw [← Hbr.out]
            obtain ⟨f, rfl⟩ | h0 : (∃ f', f = f' + 1) ∨ f = 0 := by
              rcases Nat.eq_zero_or_pos f with h | h
              · exact .inr h
              · exact .inl ⟨f - 1, by omega⟩
            · show bfs _ _ _ _ = _
              rw [bfs, if_neg hlt]
            · subst h0; exact rfl
          go_wp2
          go_ret
          exact ⟨_, rfl, by rw [hRe.out]; exact Ho.out.mono Hb0.out.size, Since.after Hb0.out Hs.out⟩
end Go.Proofs.YtlfehdikgbgloaaGreat
