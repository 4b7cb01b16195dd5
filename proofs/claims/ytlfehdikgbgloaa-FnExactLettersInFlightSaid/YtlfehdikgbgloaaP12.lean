/- Parts of the proof: walks of functions and plain laws. -/
import Derived.Test.YtlfehdikgbgloaaP11
import Derived.Test.YtlfehdikgbgloaaP8
import Derived.Test.YtlfehdikgbgloaaP10
import Derived.ArgAppend
namespace Go.Proofs.Ytlfehdikgbgloaa
open Go.RowKit
theorem own_oth {W : World} {base b k : Nat} {u : Value} {xs : List Int} (h : Own W base u xs) (hd : u.ownBlock ≠ some b) (v : Value) : Own (W.setCell ⟨b, k, none⟩ v) base u xs :=
  ownsRow_stable h fun j hj => Below.heap_setCell W _ v j (fun e => hd (by simp at hj; rw [hj, e]))
theorem getD_at {ls : List Int} {v : Nat} (h : v < ls.length) : ls[v]? = some (ls.getD v 0) := by rw [List.getD_eq_getElem?_getD, List.getElem?_eq_getElem h]; rfl
theorem pre_at {xs ys zs : List Int} {i : Nat} {x : Int} (h : zs = xs ++ ys) (hx : xs[i]? = some x) : zs[i]? = some x := by
  rw [h, List.getElem?_append_left (lt_of_get hx)]; exact hx
set_option maxRecDepth 100000 in
set_option maxHeartbeats 16000000 in
theorem meFrom_any (ve vi vn : Value) (n : Net) (v : Nat) (w : World) (h : NetIn w ve vi vn n) (hn : netOk n = true) (hv : v < n.ends.length) :
    Calls Try.prog 88 #[.agg #[ve, vi, vn], .int .i64 v] w fun e w' => ∃ u, e = .returned u ∧ Own w' w.heap.size u (distB n v) ∧ Below w.heap.size w w' := by
  have hnl := netOk_len hn
  have Hn := Lib.hid hn
  obtain ⟨w0, hw0⟩ : ∃ w0, w0 = (w).alloc (.cells #[ve, vi, vn] 31) := ⟨_, rfl⟩
  have hb0 : Below w.heap.size w w0 := by rw [hw0]; exact ((Below.refl _ _).alloc (by simp) _)
  have H := Lib.hid (h.keep hb0)
  obtain ⟨h1, h2, h3⟩ := h.keep hb0
  obtain ⟨A, c, rfl, hlc, hm, hA⟩ := h1
  obtain ⟨A2, c2, rfl, _, hm2, _⟩ := h2
  obtain ⟨A3, c3, rfl, _, hm3, _⟩ := h3
  unfold maxLen at hm hm2 hm3
  have p00 : ∀ W, Since w0 W → W.cell? ⟨w.heap.size, 0, none⟩ = some (.slice A n.ends.length c) := have_cell (by rw [hw0]; simp)
  have p01 : ∀ W, Since w0 W → W.cell? ⟨w.heap.size, 1, none⟩ = some (.slice A2 n.ids.length c2) := have_cell (by rw [hw0]; simp)
  have p02 : ∀ W, Since w0 W → W.cell? ⟨w.heap.size, 2, none⟩ = some (.slice A3 n.inputs.length c3) := have_cell (by rw [hw0]; simp)
  have Hb0 := Lib.hid hb0
  have Hw0 := Lib.hid hw0
  have HA := Lib.hid hA
  clear hA h
  clear hb0 hw0
  obtain ⟨cA, hcA⟩ : ∃ x, x = c := ⟨_, rfl⟩
  subst hcA
  obtain ⟨R, hR⟩ : ∃ R, R = distB n v := ⟨_, rfl⟩
  have HR := Lib.hid hR
  rw [← hR]
  have hs0 : Since w0 w0 := since_refl _
  clear hn hR
  go_enter Try.func88, Try.ntmps88
  go_upto_region 1 with (fail)
  rw [← Hw0.out]
  go_wp2_with (at_make; refine mk_ints _ rfl _ _ rfl _ _ n.ends.length rfl rfl rfl rfl (by omega) ?_; intro w1 ho1 hb1 hz1)
  obtain ⟨g, hg⟩ : ∃ g, g = w0.heap.size := ⟨_, rfl⟩
  rw [← hg] at ho1 hz1 ⊢
  have Hg := Lib.hid hg
  clear hg hz1
  go_wp2
  go_loopw [17] (fun i wr => ∃ k : Nat, k ≤ n.ends.length ∧ i = .int .i64 k ∧ Own wr w0.heap.size (.slice (some ⟨g, 0, none⟩) n.ends.length n.ends.length) (List.replicate k (-1) ++ List.replicate (n.ends.length - k) 0) ∧ Since w0 wr) (fun i _ => n.ends.length - (intOf i).toNat)
  case atStart => exact ⟨0, Nat.zero_le _, rfl, by have := ho1; simpa [Hg.out] using this, hb1⟩
  case round =>
    obtain ⟨k, hk, rfl, ho, hs⟩ := hrel
    have Ho := Lib.hid ho
    have Hs := Lib.hid hs
    clear ho1 hb1 ho hs hs0
    by_cases hlt : k < n.ends.length
    · obtain ⟨y, hy⟩ := getx (List.replicate k (-1 : Int) ++ List.replicate (n.ends.length - k) 0) k (by simp; omega)
      have cz := Ho.out.cell hy
      have fz := Ho.out.free k
      clear hy
      go_wp2
      go_roundw
      case rel =>
        refine ⟨k + 1, by omega, by go_num, ?_, Below.setCell Hs.out (by show w0.heap.size ≤ g; rw [Hg.out]; exact Nat.le_refl _) _⟩
        have := Ho.out.set (k := k) (-1)
        have e : (List.replicate k (-1 : Int) ++ List.replicate (n.ends.length - k) 0).set k (-1) = List.replicate (k + 1) (-1) ++ List.replicate (n.ends.length - (k + 1)) 0 := by
          rw [List.set_append_right _ _ (by simp), List.length_replicate, Nat.sub_self, show n.ends.length - k = (n.ends.length - (k + 1)) + 1 by omega, List.replicate_succ, List.set_cons_zero, List.replicate_succ', List.append_assoc]
          rfl
        rwa [e] at this
      case measure => simp [intOf]; omega
    · obtain rfl : k = n.ends.length := by omega
      have Ho2 : Hid (Own wr w0.heap.size (.slice (some ⟨g, 0, none⟩) n.ends.length n.ends.length) (List.replicate n.ends.length (-1))) := by
        have := Ho.out
        rwa [Nat.sub_self, List.replicate_zero, List.append_nil] at this
      have cz := Ho2.out.cell (getD_at (show v < (List.replicate n.ends.length (-1 : Int)).length by simpa using hv))
      have fz := Ho2.out.free v
      have Hgw : Hid (w0.heap.size ≤ g) := by rw [Hg.out]; exact Nat.le_refl _
      obtain ⟨w3, hw3⟩ : ∃ w3, w3 = wr.setCell ⟨g, v, none⟩ (.int .i64 0) := ⟨_, rfl⟩
      have Ho3 : Hid (Own w3 w0.heap.size (.slice (some ⟨g, 0, none⟩) n.ends.length n.ends.length) (bfsStart n v).1) := by rw [hw3]; exact Ho2.out.set (k := v) 0
      have Hs3 : Hid (Since w0 w3) := by rw [hw3]; exact Below.setCell Hs.out Hgw.out _
      obtain ⟨g2, hg2⟩ : ∃ g2, g2 = wr.heap.size := ⟨_, rfl⟩
      have e3 : w3.heap.size = wr.heap.size := by rw [hw3]; simp
      obtain ⟨w4, hw4⟩ : ∃ w4, w4 = w3.alloc (.cells #[.int .i64 v] 3) := ⟨_, rfl⟩
      have Ho4 : Hid (Own w4 w0.heap.size (.slice (some ⟨g, 0, none⟩) n.ends.length n.ends.length) (bfsStart n v).1) := by rw [hw4]; exact Ho3.out.since (since_alloc _ (since_refl _))
      have Hu4 : Hid (Own w4 w0.heap.size (.slice (some ⟨g2, 0, none⟩) (bfsStart n v).2.length 1) (bfsStart n v).2) := by
        rw [hw4, hg2, ← e3]
        have := own_lit w3 [(v : Int)] (by simp [maxLen])
        exact this.mono Hs3.out.below.size
      have Hs4 : Hid (Since w0 w4) := by rw [hw4]; exact since_alloc _ Hs3.out
      have hgg : g2 ≠ g := by have := (World.ownsRow.lt Ho3.out g rfl).2; omega
      clear e3
      have Hw3 := Lib.hid hw3
      have Hw4 := Lib.hid hw4
      have Hg2 := Lib.hid hg2
      clear hw3 hw4 hg2
      go_upto_region 9 with (fail)
      rw [← Hw3.out, ← Hg2.out, ← Hw4.out]
      clear cz fz
      go_wp2
      go_loopw [7, 8] (fun u i wr => ∃ (f k : Nat) (st : List Int × List Int) (gu cu : Nat), i = .int .i64 k ∧ u = .slice (some ⟨gu, 0, none⟩) st.2.length cu ∧ gu ≠ g ∧ BI n.ends.length st ∧ bfs n f st k = R ∧ n.ends.length + 1 ≤ f + k ∧ k ≤ st.2.length ∧ Own wr w0.heap.size (.slice (some ⟨g, 0, none⟩) n.ends.length n.ends.length) st.1 ∧ Own wr w0.heap.size u st.2 ∧ Since w0 wr) (fun _ i _ => n.ends.length + 1 - (intOf i).toNat)
      case atStart => exact ⟨n.ends.length + 1, 0, bfsStart n v, g2, 1, rfl, rfl, hgg, BI.start hv, HR.out.symm, by omega, Nat.zero_le _, Ho4.out, Hu4.out, Hs4.out⟩
      case round =>
        obtain ⟨f, k, st, gu, cu, rfl, rfl, hgu, hbi, hbr, hf, hk, ho, hou, hs⟩ := hrel
        have HBI := Lib.hid hbi
        have Hbr := Lib.hid hbr
        have Ho := Lib.hid ho
        have Hou := Lib.hid hou
        have Hs := Lib.hid hs
        have hbd := hbi.bd
        clear hbi hbr ho hou hs hgg
        by_cases hlt : k < st.2.length
        · obtain ⟨f, rfl⟩ : ∃ f', f = f' + 1 := ⟨f - 1, by omega⟩
          obtain ⟨x, hx⟩ := getx st.2 k hlt
          have hxin := HBI.out.walk x (List.mem_of_getElem? hx)
          obtain ⟨c, rfl⟩ := Int.eq_ofNat_of_zero_le hxin.1
          have hc : c < n.ends.length := by omega
          have cx := have_cell (Hou.out.cell hx)
          have Hxin := Lib.hid hxin
          have Hxd : Hid (st.2.getD k 0 = (c : Int)) := by show _ = _; rw [List.getD_eq_getElem?_getD, hx]; rfl
          have Hx := Lib.hid hx
          obtain ⟨es, hes⟩ := getx n.ends c hc
          obtain ⟨hes6, -⟩ := netOk_row Hn.out hes
          have Hes := Lib.hid hes
          obtain ⟨see, hsee⟩ : ∃ s, s = bsee n c := ⟨_, rfl⟩
          have Hse2 : Hid (es.map (·.1) = see) := by show _ = _; rw [hsee, bsee, Int.toNat_natCast, List.getD_eq_getElem?_getD, hes]; rfl
          have Hsin : Hid (∀ y ∈ see, 0 ≤ y ∧ y < n.ends.length) := by rw [hsee]; exact see_in Hn.out Hxin.out
          have Hsee := Lib.hid hsee
          have hs6 : see.length ≤ 6 := by rw [← Hse2.out, List.length_map]; exact hes6
          have Hcall : Hid (∀ W, Since wr W → Calls Try.prog 89 #[.agg #[.slice A n.ends.length cA, .slice A2 n.ids.length c2, .slice A3 n.inputs.length c3], .int .i64 c] W fun e w' => ∃ u, e = .returned u ∧ Own w' wr.heap.size u see ∧ Below W.heap.size W w') := fun W hW => by
            have := neNear_any _ _ _ n c es W (H.out.keep (Hs.out.after hW).below) Hes.out (by omega)
            rw [Hse2.out] at this
            exact this.mono fun e w' ⟨u, h1, h2, h3⟩ => ⟨u, h1, h2.mono (Since.below hW).size, h3⟩
          have q0 := lift_cell p00 Hs.out
          have q1 := lift_cell p01 Hs.out
          have q2 := lift_cell p02 Hs.out
          clear hx hxin hes hsee
          go_upto_region 12 with (fail)
          refine wp_region_chain (w0 := wr) 8 [false, false, false, false, false, true, true, false] (by kernel_rfl) (by kernel_rfl) (since_refl _) ?_
          simp only [selF, selT, List.take_succ_cons, List.take_zero, List.drop_succ_cons, List.drop_zero]
          refine pflow_val (v := ?_) rfl ?_ ?_; rotate_left; (intro W hW; go_simp; with_reducible rfl)
          simp only [Act.put, List.setIfInBounds_toArray, List.set_cons_succ, List.set_cons_zero]
          refine pflow_val (v := ?_) rfl ?_ ?_; rotate_left; (intro W hW; go_simp; with_reducible rfl)
          simp only [Act.put, List.setIfInBounds_toArray, List.set_cons_succ, List.set_cons_zero]
          refine pflow_val (v := ?_) rfl ?_ ?_; rotate_left; (intro W hW; go_simp; with_reducible rfl)
          simp only [Act.put, List.setIfInBounds_toArray, List.set_cons_succ, List.set_cons_zero]
          refine pflow_val (v := ?_) rfl ?_ ?_; rotate_left; (intro W hW; go_simp; with_reducible rfl)
          simp only [Act.put, List.setIfInBounds_toArray, List.set_cons_succ, List.set_cons_zero]
          refine pflow_val (v := ?_) rfl ?_ ?_; rotate_left; (intro W hW; go_simp; with_reducible rfl)
          simp only [Act.put, List.setIfInBounds_toArray, List.set_cons_succ, List.set_cons_zero]
          refine pflow_val (v := ?_) rfl ?_ ?_; rotate_left; (intro W hW; go_simp; with_reducible rfl)
          simp only [Act.put, List.setIfInBounds_toArray, List.set_cons_succ, List.set_cons_zero]
          intro W hW
          refine Or.inl ⟨rfl, ?_⟩
          go_simp
          (with_reducible refine (Hcall.out W hW).mono ?_)
          rintro e W' ⟨un, rfl, hon, hb⟩
          refine ⟨_, rfl, hW.trans hb, ?_⟩
          replace hW := hW.trans hb
          obtain ⟨Bn, dn, rfl, _⟩ := id hon.ints
          (try simp only [Act.put, List.setIfInBounds_toArray, List.set_cons_succ, List.set_cons_zero])
          refine tflow_val (v := ?_) rfl ?_ hW ?_; rotate_left; (go_simp; with_reducible rfl)
          simp only [Act.put, List.setIfInBounds_toArray, List.set_cons_succ, List.set_cons_zero]
          simp only [TFlow]
          have Hon := Lib.hid (hon.mono Hs.out.below.size)
          have hnr := fun q hq => (World.ownsRow.lt hon q hq).1
          have hng : (Value.slice Bn see.length dn).ownBlock ≠ some g := fun e => by have := hnr g e; have := (World.ownsRow.lt Ho.out g rfl).2; omega
          have hnu : (Value.slice Bn see.length dn).ownBlock ≠ some gu := fun e => by have := hnr gu e; have := (World.ownsRow.lt Hou.out gu rfl).2; omega
          have Ho5 := Lib.hid (Ho.out.since hW)
          have Hou5 := Lib.hid (Hou.out.since hW)
          have Hs5 := Lib.hid (Hs.out.after hW)
          have Hng := Lib.hid hng
          have Hnu := Lib.hid hnu
          have Hfw : Hid (∀ j, ∃ ys, ((see.take j).foldl (bstep c) st).2 = st.2 ++ ys) := fun j => fold_walk _ _ _
          clear hon hnr hng hnu hW cx q0 q1 q2
          go_wp2
          go_loopw [7, 42] (fun u i wr => ∃ (j gu cu : Nat) (st' : List Int × List Int), j ≤ see.length ∧ i = .int .i64 j ∧ st' = (see.take j).foldl (bstep c) st ∧ u = .slice (some ⟨gu, 0, none⟩) st'.2.length cu ∧ gu ≠ g ∧ BI n.ends.length st' ∧ Own wr w0.heap.size (.slice (some ⟨g, 0, none⟩) n.ends.length n.ends.length) st'.1 ∧ Own wr w0.heap.size u st'.2 ∧
            Own wr w0.heap.size (.slice Bn see.length dn) see ∧ (Value.slice Bn see.length dn).ownBlock ≠ some gu ∧ Since w0 wr) (fun _ i _ => see.length - (intOf i).toNat)
          case atStart => exact ⟨0, gu, cu, st, Nat.zero_le _, rfl, rfl, rfl, hgu, HBI.out, Ho5.out, Hou5.out, Hon.out, Hnu.out, Hs5.out⟩
          case round =>
            obtain ⟨j, gv, cv, st', hj, rfl, hst', rfl, hgv, hbi', ho', hou', hon', hnv, hs'⟩ := hrel
            have HBI' := Lib.hid hbi'
            have Ho' := Lib.hid ho'
            have Hou' := Lib.hid hou'
            have Hon' := Lib.hid hon'
            have Hs' := Lib.hid hs'
            have Hst' := Lib.hid hst'
            have Hnv := Lib.hid hnv
            have hbd' := hbi'.bd
            clear hst' hbi' ho' hou' hon' hs' hnv hgu
            by_cases hlj : j < see.length
            · obtain ⟨y, hy⟩ := getx see j hlj
              have hyin := Hsin.out y (List.mem_of_getElem? hy)
              obtain ⟨d, rfl⟩ := Int.eq_ofNat_of_zero_le hyin.1
              have hd : d < n.ends.length := by omega
              rcases Hon'.out.cases with ⟨-, e1⟩ | ⟨gn, cn, en, hgn1, hgn2⟩
              · rw [e1] at hlj; simp at hlj
              injection en with en1 en2 en3
              subst en1
              have cy := Hon'.out.cell hy
              have hl1 : st'.1.length = n.ends.length := HBI'.out.len
              have cd := Ho'.out.cell (getD_at (show d < st'.1.length by omega))
              have fd := Ho'.out.free d
              obtain ⟨z, hz⟩ : ∃ z, z = st'.1.getD d 0 := ⟨_, rfl⟩
              rw [← hz] at cd
              have Hz := Lib.hid hz
              have Hy := Lib.hid hy
              have Hnx : Hid ((see.take (j + 1)).foldl (bstep c) st = bstep c st' d) := by show _ = _; rw [fold_snoc hy, ← Hst'.out]
              have Hl1 := Lib.hid hl1
              have m3 : IntKind.i64.wrap ((j : Int) + 1) = (j : Int) + 1 := wr64 _ (by omega) (by omega)
              clear hz hy hyin hl1 en2 en3
              by_cases hneg : z < 0
              · have hcl : c < st'.1.length := by rw [Hl1.out]; exact hc
                obtain ⟨q, hq⟩ : ∃ q, q = st'.1.getD c 0 := ⟨_, rfl⟩
                have cq := Ho'.out.cell (getD_at hcl)
                rw [← hq] at cq
                have hqb : -1 ≤ q ∧ q < st'.2.length := by rw [hq]; exact HBI'.out.val _ (List.mem_of_getElem? (getD_at hcl))
                obtain ⟨ys, hys⟩ := Hfw.out j
                have cw := Hou'.out.cell (pre_at (show st'.2 = st.2 ++ ys by rw [Hst'.out]; exact hys) Hx.out)
                have hkl : k < st'.2.length := lt_of_get (pre_at (show st'.2 = st.2 ++ ys by rw [Hst'.out]; exact hys) Hx.out)
                have m4 : IntKind.i64.wrap (q + 1) = q + 1 := wr64 _ (by omega) (by omega)
                have Hnew : Hid (bstep c st' d = (st'.1.set d (q + 1), st'.2 ++ [(d : Int)])) := by show _ = _; unfold bstep; rw [Int.toNat_natCast, Int.toNat_natCast, ← Hz.out, if_pos hneg, ← hq]
                have HBn : Hid (BI n.ends.length (bstep c st' d)) := HBI'.out.step (by omega) (by omega)
                obtain ⟨w5, hw5⟩ : ∃ w5, w5 = wr.setCell ⟨g, d, none⟩ (.int .i64 (q + 1)) := ⟨_, rfl⟩
                have Ho5' : Hid (Own w5 w0.heap.size (.slice (some ⟨g, 0, none⟩) n.ends.length n.ends.length) (st'.1.set d (q + 1))) := by rw [hw5]; exact Ho'.out.set (k := d) (q + 1)
                have Hou5' : Hid (Own w5 w0.heap.size (.slice (some ⟨gv, 0, none⟩) st'.2.length cv) st'.2) := by rw [hw5]; exact own_oth Hou'.out (by simpa [Value.ownBlock] using hgv) _
                have Hon5' : Hid (Own w5 w0.heap.size (.slice (some ⟨gn, 0, none⟩) see.length dn) see) := by rw [hw5]; exact own_oth Hon'.out Hng.out _
                have Hs5' : Hid (Since w0 w5) := by rw [hw5]; exact Below.setCell Hs'.out Hgw.out _
                have Hw5 := Lib.hid hw5
                have Hgv := Lib.hid hgv
                have Hlen : Hid (st'.2.length + 1 ≤ 17592186044416) := by show _ ≤ _; omega
                clear hq hw5 hys
                go_upto_region 17 with (fail)
                rw [← Hw5.out]
                clear cy cd fd cq cw m4
                go_wp2_with (at_builtin; refine app_int rfl _ _ rfl rfl (Hou5'.out.since (since_alloc _ (since_refl _))) w5.heap.size d rfl (by simp [go_sem]) Hlen.out (by have := Hs5'.out.below.size; simp; omega) ?_; intro g7 c7 w7 ho7 hg7 hor7 _)
                change World.grownBy _ w7 (some gv) at hg7
                change (some gv = some g7 ∨ g7 = _) at hor7
                have Ho7 : Hid (Own w7 w0.heap.size (.slice (some ⟨g, 0, none⟩) n.ends.length n.ends.length) (st'.1.set d (q + 1))) := Own.grown (Ho5'.out.keep (below_alloc w5 _)) hg7 (fun x hx e => by simp [Value.ownBlock] at hx; cases e; exact Hgv.out hx.symm)
                have Hon7 : Hid (Own w7 w0.heap.size (.slice (some ⟨gn, 0, none⟩) see.length dn) see) := Own.grown (Hon5'.out.keep (below_alloc w5 _)) hg7 (fun x hx e => by cases e; exact Hnv.out hx)
                have Hou7 : Hid (Own w7 w0.heap.size (.slice (some ⟨g7, 0, none⟩) (st'.2.length + 1) c7) (st'.2 ++ [(d : Int)])) := ho7
                have Hgz := Lib.hid (World.ownsRow.lt Ho5'.out g rfl).2
                have Hgnz := Lib.hid (World.ownsRow.lt Hon5'.out gn rfl).2
                have Hg7 : Hid (g7 ≠ g) := by
                  rcases hor7 with e | e
                  · cases e; exact Hgv.out
                  · simp at e; exact fun e2 => by have := Hgz.out; omega
                have Hgn7 : Hid ((Value.slice (some ⟨gn, 0, none⟩) see.length dn).ownBlock ≠ some g7) := by
                  rcases hor7 with e | e
                  · cases e; exact Hnv.out
                  · simp at e; exact fun e2 => by simp [Value.ownBlock] at e2; have := Hgnz.out; omega
                have Hs7 : Hid (Since w0 w7) := Below.grown (show Below w0.heap.size w0 _ from since_alloc _ Hs5'.out) hg7 (by have := Hs5'.out.below.size; simp; omega) (fun x hx => by cases hx; exact (World.ownsRow.lt Hou5'.out gv rfl).1)
                clear ho7 hg7 hor7
                go_wp2
                go_roundw
                case rel => exact ⟨j + 1, g7, c7, bstep c st' d, by omega, by go_num, Hnx.out.symm, by rw [Hnew.out]; simp, Hg7.out, HBn.out, by rw [Hnew.out]; exact Ho7.out, by rw [Hnew.out]; exact Hou7.out, Hon7.out, Hgn7.out, Hs7.out⟩
                case measure => simp [intOf]; omega
              · have Hsame : Hid (bstep c st' d = st') := by show _ = _; unfold bstep; rw [Int.toNat_natCast, ← Hz.out, if_neg hneg]
                go_wp2
                go_roundw
                case rel => exact ⟨j + 1, gv, cv, st', by omega, by go_num, by rw [Hnx.out, Hsame.out], rfl, hgv, HBI'.out, Ho'.out, Hou'.out, Hon'.out, Hnv.out, Hs'.out⟩
                case measure => simp [intOf]; omega
            · obtain rfl : j = see.length := by omega
              have Hfin : Hid (st' = see.foldl (bstep c) st) := by show _ = _; rw [Hst'.out, List.take_length]
              have Hbn : Hid (bfs n f st' (k + 1) = R) := by
                show _ = _
                rw [← Hbr.out, bfs, if_pos hlt, Hxd.out, ← Hsee.out, ← Hfin.out]
              have Hlw : Hid (k + 1 ≤ st'.2.length) := by
                obtain ⟨ys, hys⟩ := Hfw.out see.length
                show _ ≤ _
                rw [Hst'.out, hys, List.length_append]
                omega
              have m3 : IntKind.i64.wrap ((k : Int) + 1) = (k : Int) + 1 := wr64 _ (by omega) (by omega)
              go_wp2
              go_roundw
              case rel => exact ⟨f, k + 1, st', gv, cv, by go_num, rfl, hgv, HBI'.out, Hbn.out, by omega, Hlw.out, Ho'.out, Hou'.out, Hs'.out⟩
              case measure => simp [intOf]; omega
        · have hRe : Hid (R = st.1) := by
            rw [← Hbr.out]
            obtain ⟨f, rfl⟩ | h0 : (∃ f', f = f' + 1) ∨ f = 0 := by
              rcases Nat.eq_zero_or_pos f with h | h
              · exact .inr h
              · exact .inl ⟨f - 1, by omega⟩
            · show bfs _ _ _ _ = _
              rw [bfs, if_neg hlt]
            · subst h0; exact rfl
          go_wp2
          go_ret
          exact ⟨_, rfl, by rw [hRe.out]; exact Ho.out.mono Hb0.out.size, Since.after Hb0.out Hs.out⟩
end Go.Proofs.Ytlfehdikgbgloaa
namespace Go.Proofs.Ytlfehdikgbgloaa
open Go.RowKit
/-! edges: rows of four integers -/
abbrev Ed := Int × Int × Int × Int
def encD (e : Ed) : List Value := [.int .i64 e.1, .int .i64 e.2.1, .int .i64 e.2.2.1, .int .i64 e.2.2.2]
theorem edge_info : (Try.prog.info? 102).map (fun i => (i.zero, i.size, i.bytes)) = some (some (.agg #[.int .i64 0, .int .i64 0, .int .i64 0, .int .i64 0]), 4, 32) := by kernel_rfl
def OwnD (w : World) (base : Nat) (v : Value) (xs : List Ed) : Prop := w.ownsRow base 102 4 v xs.length (xs.flatMap encD)
theorem encD_len (xs : List Ed) : (xs.flatMap encD).length = xs.length * 4 := by
  induction xs with
  | nil => rfl
  | cons x xs ih => simp [encD, ih]; omega
theorem encD_get : ∀ {xs : List Ed} {k : Nat} {x : Ed}, xs[k]? = some x → (xs.flatMap encD)[k * 4]? = some (.int .i64 x.1) ∧ (xs.flatMap encD)[k * 4 + 1]? = some (.int .i64 x.2.1) ∧ (xs.flatMap encD)[k * 4 + 2]? = some (.int .i64 x.2.2.1) ∧ (xs.flatMap encD)[k * 4 + 3]? = some (.int .i64 x.2.2.2)
  | [], _, _, h => by simp at h
  | y :: xs, 0, x, h => by simp at h; subst h; simp [encD]
  | y :: xs, k + 1, x, h => by
    obtain ⟨h1, h2, h3, h4⟩ := encD_get (xs := xs) (k := k) (x := x) (by simpa using h)
    have e : ∀ j, ((y :: xs).flatMap encD)[(k + 1) * 4 + j]? = (xs.flatMap encD)[k * 4 + j]? := fun j => by
      rw [List.flatMap_cons, List.getElem?_append_right (by simp [encD]; omega)]
      congr 1
      simp [encD]; omega
    exact ⟨(e 0).trans h1, (e 1).trans h2, (e 2).trans h3, (e 3).trans h4⟩
theorem OwnD.keep {w w' : World} {base : Nat} {v : Value} {xs : List Ed} (h : OwnD w base v xs) (hb : Since w w') : OwnD w' base v xs := ownsRow_stable h fun k hk => hb.below.block k (World.ownsRow.lt h k (by simpa using hk)).2
theorem OwnD.mono {w : World} {base base' : Nat} {v : Value} {xs : List Ed} (h : OwnD w base v xs) (hb : base' ≤ base) : OwnD w base' v xs := ownsRow_mono h hb
theorem ownD_nil (w : World) (base : Nat) : OwnD w base (.slice none 0 0) [] := World.ownsRow_nil w base _ _
/-- a row of edges, for reading -/
def EdgeS (W : World) (v : Value) (xs : List Ed) : Prop := ∃ A c, v = .slice A xs.length c ∧ c ≤ maxLen ∧ xs.length ≤ c ∧ ∀ k x, xs[k]? = some x → ∃ b, A = some ⟨b, 0, none⟩ ∧ W.cell? ⟨b, k * 4, none⟩ = some (.int .i64 x.1) ∧ W.cell? ⟨b, k * 4 + 1, none⟩ = some (.int .i64 x.2.1) ∧ W.cell? ⟨b, k * 4 + 2, none⟩ = some (.int .i64 x.2.2.1) ∧ W.cell? ⟨b, k * 4 + 3, none⟩ = some (.int .i64 x.2.2.2)
theorem OwnD.read {w : World} {base : Nat} {v : Value} {xs : List Ed} (h : OwnD w base v xs) : EdgeS w v xs := by
  have h' := h
  rcases h.2 with ⟨rfl, hn⟩ | ⟨g, cap, cur, rfl, hb, hg, hnc, hcm, hsz, htk⟩
  · have : xs = [] := List.eq_nil_of_length_eq_zero hn
    subst this
    exact ⟨none, 0, rfl, Nat.zero_le _, Nat.le_refl _, fun k x hk => by simp at hk⟩
  · refine ⟨_, cap, rfl, hcm, hnc, fun k x hk => ⟨g, rfl, ?_⟩⟩
    obtain ⟨h1, h2, h3, h4⟩ := encD_get hk
    have hkl := lt_of_get hk
    exact ⟨by rw [World.ownsRow.cellAt (cap := cap) h' _ (by omega)]; exact h1, by rw [World.ownsRow.cellAt (cap := cap) h' _ (by omega)]; exact h2, by rw [World.ownsRow.cellAt (cap := cap) h' _ (by omega)]; exact h3, by rw [World.ownsRow.cellAt (cap := cap) h' _ (by omega)]; exact h4⟩
theorem app_edge {w w0 : World} {ops : Array Oper} {rest : List Oper} {o : Oper} {a : Act} {Q : Exit → Act → World → Prop} (hgd : o.guard = none) (s x : Operand)
    (ho : o.op = .call { callee := .builtin .append, args := #[s, x], argTypes := #[99, 99] }) {v : Value} {xs : List Ed} (hs : a.eval s = v) (h : OwnD w w0.heap.size v xs) (b : Nat) (y : Ed)
    (hx : a.eval x = .slice (some ⟨b, 0, none⟩) 1 1) (hc0 : w.cell? ⟨b, 0, none⟩ = some (.int .i64 y.1)) (hc1 : w.cell? ⟨b, 1, none⟩ = some (.int .i64 y.2.1)) (hc2 : w.cell? ⟨b, 2, none⟩ = some (.int .i64 y.2.2.1)) (hc3 : w.cell? ⟨b, 3, none⟩ = some (.int .i64 y.2.2.2)) (hl : xs.length + 1 ≤ 1000000) (hsn : Since w0 w)
    (k : ∀ g cap w', OwnD w' w0.heap.size (.slice (some ⟨g, 0, none⟩) (xs.length + 1) cap) (xs ++ [y]) → Since w0 w' → wpList Try.prog ops Q rest (a.put o.dst (.slice (some ⟨g, 0, none⟩) (xs.length + 1) cap)) w') : wpList Try.prog ops Q (o :: rest) a w := by
  obtain ⟨i0, hi, hz0, hz1, hz2⟩ := info_parts edge_info
  refine wpList_append_lies w hgd s x 99 ho w0.heap.size 102 i0 _ 4 32 Try.underlying99 hi hz0 hz1 hz2 rfl (by decide) v xs.length (xs.flatMap encD) hs h ⟨b, 0, none⟩ 1 1 (encD y) hx rfl
    (by
      intro j u hj
      rw [Go.Addr.add_lit, Nat.zero_add]
      match j, hj with
      | 0, hj => simp [encD] at hj; subst hj; exact hc0
      | 1, hj => simp [encD] at hj; subst hj; exact hc1
      | 2, hj => simp [encD] at hj; subst hj; exact hc2
      | 3, hj => simp [encD] at hj; subst hj; exact hc3
      | j + 4, hj => simp [encD] at hj) (by simp [encD, Value.oneCell']) (by omega) (by unfold maxLen; omega) (by omega) hsn.below.size w.heap.size rfl ?_
  intro g cap w' h1 h2 h3 h4
  refine k g cap w' ?_ (Below.grown hsn h2 hsn.below.size (fun q hq => (World.ownsRow.lt h q hq).1))
  unfold OwnD
  simpa using h1
def PredD (w0 : World) (fid : FuncId) (caps : Array Value) (p : Ed → Bool) (xs : List Ed) : Prop :=
  ∀ x ∈ xs, ∀ w, Since w0 w → Calls Try.prog fid (#[.agg #[.int .i64 x.1, .int .i64 x.2.1, .int .i64 x.2.2.1, .int .i64 x.2.2.2]] ++ caps) w fun e w' => e = .returned (.bool (p x)) ∧ Below w.heap.size w w'
def didx (p : Ed → Bool) (xs : List Ed) : Int := match xs.findIdx? p with | some i => (i : Int) | none => -1
theorem didx_none {p : Ed → Bool} {xs : List Ed} (h : xs.any p = false) : didx p xs = -1 := by
  have : xs.findIdx? p = none := by
    rw [List.findIdx?_eq_none_iff]
    intro x hx
    rw [List.any_eq_false] at h
    simpa using h x hx
  simp [didx, this]
theorem didx_found {p : Ed → Bool} {xs : List Ed} {k : Nat} {x : Ed} (hx : xs[k]? = some x) (hp : p x = true) (h : (xs.take k).any p = false) : didx p xs = k := by
  have : xs.findIdx? p = some k := by
    obtain ⟨hk, rfl⟩ := List.getElem?_eq_some_iff.1 hx
    rw [List.findIdx?_eq_some_iff_getElem]
    refine ⟨hk, hp, fun j hj => ?_⟩
    rw [List.any_eq_false] at h
    have := h xs[j] (List.mem_take_iff_getElem.2 ⟨j, by omega, rfl⟩)
    simpa using this
  simp [didx, this]
theorem didx_any (p : Ed → Bool) (xs : List Ed) : decide (0 ≤ didx p xs) = xs.any p := by
  unfold didx
  cases h : xs.findIdx? p with
  | none =>
    rw [List.findIdx?_eq_none_iff] at h
    have : xs.any p = false := by rw [List.any_eq_false]; intro x hx; simp [h x hx]
    rw [this]; rfl
  | some i =>
    rw [List.findIdx?_eq_some_iff_getElem] at h
    obtain ⟨hi, hp, -⟩ := h
    have : xs.any p = true := List.any_eq_true.2 ⟨_, List.getElem_mem hi, hp⟩
    rw [this]; simp
theorem any_snocD {p : Ed → Bool} {xs : List Ed} {k : Nat} {x : Ed} (hx : xs[k]? = some x) (h : (xs.take k).any p = false) (hp : p x = false) : (xs.take (k + 1)).any p = false := by
  rw [take_snoc hx, List.any_append, h]
  simp [hp]
set_option maxHeartbeats 4000000 in
theorem indexFuncD_any (v : Value) (xs : List Ed) (fid : FuncId) (caps : Array Value) (p : Ed → Bool) (w : World) (h : EdgeS w v xs) (henter : ∀ args w, (callFunc fid args).run Try.prog w = .ok (.enter fid args) w) (hp : PredD w fid caps p xs) :
    Calls Try.prog 101 #[v, .func (.func fid) #[] caps] w fun e w' => e = .returned (.int .i64 (didx p xs)) ∧ Below w.heap.size w w' := by
  have H := Lib.hid h
  obtain ⟨A, c, rfl, hm, hlc, hA⟩ := h
  unfold maxLen at hm
  have HA := Lib.hid hA
  clear hA
  have Hp := Lib.hid hp
  have eg := henter
  clear hp
  go_enter Try.func101, Try.ntmps101
  go_wp2
  go_loopw [8] (fun i wr => ∃ k : Nat, k ≤ xs.length ∧ i = .int .i64 k ∧ (xs.take k).any p = false ∧ Since w wr) (fun i _ => xs.length - (intOf i).toNat)
  case atStart => exact ⟨0, Nat.zero_le _, rfl, rfl, since_refl _⟩
  case round =>
    obtain ⟨k, hk, rfl, hany, hb⟩ := hrel
    have Hany := Lib.hid hany
    have Hb := Lib.hid hb
    clear hany hb
    by_cases hlt : k < xs.length
    · obtain ⟨x, hx⟩ := getx xs k hlt
      obtain ⟨b, rfl, hc0, hc1, hc2, hc3⟩ := HA.out k x hx
      have d0 := Hb.out.cell hc0
      have d1 := Hb.out.cell hc1
      have d2 := Hb.out.cell hc2
      have d3 := Hb.out.cell hc3
      have Hx := Lib.hid hx
      clear hx hc0 hc1 hc2 hc3
      obtain ⟨y, hy⟩ : ∃ y, y = p x := ⟨_, rfl⟩
      have Hy := Lib.hid hy
      have hcall := Hp.out x (List.mem_of_getElem? Hx.out) _ Hb.out
      rw [← hy] at hcall
      have Hcall := Lib.hid hcall
      clear hy hcall
      go_wp2_with fail
      refine Hcall.out.mono ?_
      rintro e w1 ⟨rfl, hb1⟩
      have Hb1 := Lib.hid (Hb.out.trans hb1)
      clear hb1
      cases y
      · go_wp2
        go_roundw
        case rel => exact ⟨k + 1, by omega, by go_num, any_snocD Hx.out Hany.out Hy.out.symm, Hb1.out⟩
        case measure => simp [intOf]; omega
      · have Hr : Hid (didx p xs = k) := didx_found Hx.out Hy.out.symm Hany.out
        go_wp2
        go_ret
        exact ⟨congrArg (fun i => Ending.returned (.int .i64 i)) Hr.out.symm, Hb1.out⟩
    · obtain rfl : k = xs.length := by omega
      have Hr : Hid (didx p xs = -1) := didx_none (by have := Hany.out; rwa [List.take_length] at this)
      go_wp2
      go_ret
      exact ⟨congrArg (fun i => Ending.returned (.int .i64 i)) Hr.out.symm, Hb.out⟩
theorem containsFuncD_any (v : Value) (xs : List Ed) (fid : FuncId) (caps : Array Value) (p : Ed → Bool) (w : World) (h : EdgeS w v xs) (henter : ∀ args w, (callFunc fid args).run Try.prog w = .ok (.enter fid args) w) (hp : PredD w fid caps p xs) :
    Calls Try.prog 70 #[v, .func (.func fid) #[] caps] w fun e w' => e = .returned (.bool (xs.any p)) ∧ Below w.heap.size w w' := by
  have hi := Lib.hid (indexFuncD_any v xs fid caps p w h henter hp)
  have He := Lib.hid (didx_any p xs)
  obtain ⟨A, c, rfl, hm, hlc, hA⟩ := h
  go_enter Try.func70, Try.ntmps70
  go_wp2_with fail
  refine hi.out.mono ?_
  rintro e w1 ⟨rfl, hb⟩
  have Hb := Lib.hid hb
  clear hb
  go_wp2
  go_ret
  exact ⟨congrArg (fun b => Ending.returned (.bool b)) He.out, Hb.out⟩
end Go.Proofs.Ytlfehdikgbgloaa
namespace Go.Proofs.Ytlfehdikgbgloaa
open Go.RowKit
def keepE (v i : Nat) (e : Int × Int) : Bool := decide ((v : Int) < e.1) || (((v : Int) == e.1) && decide ((i : Int) ≤ e.2))
def eone (v i : Nat) (e : Int × Int) : List Ed := if keepE v i e then [((v : Int), (i : Int), e.1, e.2)] else []
def erow (v : Nat) (es : List (Int × Int)) (i : Nat) : List Ed := (List.range i).flatMap fun j => eone v j (es.getD j (0, 0))
def rowOf (n : Net) (u : Nat) : List (Int × Int) := n.ends.getD u []
def edgesTo (n : Net) (v : Nat) : List Ed := (List.range v).flatMap fun u => erow u (rowOf n u) (rowOf n u).length
def edgesB (n : Net) : List Ed := edgesTo n n.ends.length
theorem erow_succ (v : Nat) (es : List (Int × Int)) (i : Nat) : erow v es (i + 1) = erow v es i ++ eone v i (es.getD i (0, 0)) := by
  unfold erow
  rw [List.range_succ, List.flatMap_append]
  simp
theorem edgesTo_succ (n : Net) (v : Nat) : edgesTo n (v + 1) = edgesTo n v ++ erow v (rowOf n v) (rowOf n v).length := by
  unfold edgesTo
  rw [List.range_succ, List.flatMap_append]
  simp
theorem erow_len (v : Nat) (es : List (Int × Int)) (i : Nat) : (erow v es i).length ≤ i := by
  induction i with
  | zero => simp [erow]
  | succ i ih =>
    rw [erow_succ, List.length_append]
    have : (eone v i (es.getD i (0, 0))).length ≤ 1 := by unfold eone; split <;> simp
    omega
theorem edgesTo_len {n : Net} (hn : netOk n = true) (v : Nat) : (edgesTo n v).length ≤ 6 * v := by
  induction v with
  | zero => simp [edgesTo]
  | succ v ih =>
    rw [edgesTo_succ, List.length_append]
    have h1 := erow_len v (rowOf n v) (rowOf n v).length
    have h2 : (rowOf n v).length ≤ 6 := by
      unfold rowOf
      rw [List.getD_eq_getElem?_getD]
      cases h : n.ends[v]? with
      | none => simp
      | some es => exact (netOk_row hn h).1
    omega
theorem mem_edges {n : Net} {e : Ed} : e ∈ edgesB n ↔ ∃ v i, v < n.ends.length ∧ i < (rowOf n v).length ∧ keepE v i ((rowOf n v).getD i (0, 0)) = true ∧ e = ((v : Int), (i : Int), ((rowOf n v).getD i (0, 0)).1, ((rowOf n v).getD i (0, 0)).2) := by
  unfold edgesB edgesTo erow
  simp only [List.mem_flatMap, List.mem_range]
  constructor
  · rintro ⟨v, hv, i, hi, he⟩
    unfold eone at he
    split at he
    · rename_i hk
      exact ⟨v, i, hv, hi, hk, by simpa using he⟩
    · simp at he
  · rintro ⟨v, i, hv, hi, hk, rfl⟩
    exact ⟨v, hv, i, hi, by unfold eone; rw [if_pos hk]; simp⟩
theorem getD_mem' {xs : List (Int × Int)} {i : Nat} (h : i < xs.length) : xs.getD i (0, 0) ∈ xs := by
  have e : xs.getD i (0, 0) = xs[i] := by simp [h]
  rw [e]
  exact List.getElem_mem h
def pLoop (e : Ed) : Bool := e.1 == e.2.2.1
def plainB (n : Net) : Bool := (List.range n.ends.length).all fun v => !hasB (bsee n (v : Int)) (v : Int)
theorem loops_plain {n : Net} (hn : netOk n = true) : (edgesB n).any pLoop = !plainB n := by
  rw [Bool.eq_iff_iff]
  unfold plainB
  rw [Bool.not_eq_true', ← Bool.not_eq_true, List.all_eq_true, List.any_eq_true]
  constructor
  · rintro ⟨e, he, hp⟩ hall
    obtain ⟨v, i, hv, hi, hk, rfl⟩ := mem_edges.1 he
    have := hall v (List.mem_range.2 hv)
    unfold pLoop at hp
    simp only [beq_iff_eq] at hp
    have hm : hasB (bsee n (v : Int)) (v : Int) = true := by
      unfold hasB bsee
      rw [List.contains_iff_mem, Int.toNat_natCast]
      exact List.mem_map.2 ⟨(rowOf n v).getD i (0, 0), getD_mem' hi, hp.symm⟩
    rw [hm] at this
    cases this
  · intro hnall
    obtain ⟨v, hv⟩ := Classical.not_forall.1 hnall
    obtain ⟨hv1, hv2⟩ := Classical.not_imp.1 hv
    have hv1 := List.mem_range.1 hv1
    have hm : hasB (bsee n (v : Int)) (v : Int) = true := by simpa using hv2
    unfold hasB bsee at hm
    rw [List.contains_iff_mem, Int.toNat_natCast] at hm
    obtain ⟨e, he, hev⟩ := List.mem_map.1 hm
    obtain ⟨i, hi, hie⟩ := List.getElem_of_mem he
    have hi' : i < (rowOf n v).length := hi
    have hgd : (rowOf n v).getD i (0, 0) = e := by
      have : (rowOf n v).getD i (0, 0) = (rowOf n v)[i] := by simp [hi']
      rw [this]
      exact hie
    have hp : hasPortB n.ends (v : Int) (i : Int) = true := by
      unfold hasPortB
      rw [Bool.and_eq_true]
      refine ⟨inB_iff.2 (by omega), inB_iff.2 ?_⟩
      rw [Int.toNat_natCast]
      have : i < (n.ends.getD v []).length := hi'
      omega
    obtain ⟨hq1, hq2⟩ := netOk_end hn hp
    have hat : endAt n.ends (v : Int) (i : Int) = e := by
      unfold endAt
      rw [Int.toNat_natCast, Int.toNat_natCast]
      exact hgd
    rw [hat] at hq1 hq2
    rw [hev] at hq1 hq2
    unfold hasPortB at hq1
    rw [Bool.and_eq_true] at hq1
    have hb := inB_iff.1 hq1.2
    rw [Int.toNat_natCast] at hb
    obtain ⟨p, hpe⟩ := Int.eq_ofNat_of_zero_le hb.1
    rw [hpe] at hq2 hb
    have hpl : p < (rowOf n v).length := by
      show p < (n.ends.getD v []).length
      omega
    have hat2 : (rowOf n v).getD p (0, 0) = ((v : Int), (i : Int)) := by
      unfold endAt at hq2
      rw [Int.toNat_natCast, Int.toNat_natCast] at hq2
      exact hq2
    by_cases hle : i ≤ p
    · refine ⟨_, mem_edges.2 ⟨v, i, hv1, hi', ?_, rfl⟩, ?_⟩
      · rw [hgd]
        unfold keepE
        rw [hev, hpe]
        simp [hle]
      · show ((v : Int) == ((rowOf n v).getD i (0, 0)).1) = true
        rw [hgd, hev]
        simp
    · refine ⟨_, mem_edges.2 ⟨v, p, hv1, hpl, ?_, rfl⟩, ?_⟩
      · rw [hat2]
        unfold keepE
        simp
        omega
      · show ((v : Int) == ((rowOf n v).getD p (0, 0)).1) = true
        rw [hat2]
        simp
end Go.Proofs.Ytlfehdikgbgloaa
namespace Go.Proofs.Ytlfehdikgbgloaa
open Go.RowKit
set_option maxRecDepth 100000 in
set_option maxHeartbeats 4000000 in
theorem edges_any (ve vi vn : Value) (n : Net) (w : World) (h : NetIn w ve vi vn n) (hn : netOk n = true) :
    Calls Try.prog 66 #[.agg #[ve, vi, vn]] w fun e w' => ∃ u, e = .returned u ∧ OwnD w' w.heap.size u (edgesB n) ∧ Below w.heap.size w w' := by
  have hn40 := (netOk_len hn).2
  obtain ⟨w0, hw0⟩ : ∃ w0, w0 = (w).alloc (.cells #[ve, vi, vn] 31) := ⟨_, rfl⟩
  have hb0 : Below w.heap.size w w0 := by rw [hw0]; exact ((Below.refl _ _).alloc (by simp) _)
  have H := Lib.hid (h.keep hb0)
  obtain ⟨h1, h2, h3⟩ := h.keep hb0
  obtain ⟨A, c, rfl, hlc, hm, hA⟩ := h1
  obtain ⟨A2, c2, rfl, _, hm2, _⟩ := h2
  obtain ⟨A3, c3, rfl, _, hm3, _⟩ := h3
  unfold maxLen at hm hm2 hm3
  have p00 : ∀ W, Since w0 W → W.cell? ⟨w.heap.size, 0, none⟩ = some (.slice A n.ends.length c) := have_cell (by rw [hw0]; simp)
  have p01 : ∀ W, Since w0 W → W.cell? ⟨w.heap.size, 1, none⟩ = some (.slice A2 n.ids.length c2) := have_cell (by rw [hw0]; simp)
  have p02 : ∀ W, Since w0 W → W.cell? ⟨w.heap.size, 2, none⟩ = some (.slice A3 n.inputs.length c3) := have_cell (by rw [hw0]; simp)
  have Hb0 := Lib.hid hb0
  have Hw0 := Lib.hid hw0
  have HA := Lib.hid hA
  clear hA h
  clear hb0 hw0
  have Hn := Lib.hid hn
  have hs0 : Since w0 w0 := since_refl _
  clear hn
  go_enter Try.func66, Try.ntmps66
  go_upto_region 1 with (fail)
  rw [← Hw0.out]
  go_wp2
  go_loopw [3, 11] (fun u i wr => ∃ k : Nat, k ≤ n.ends.length ∧ i = .int .i64 k ∧ OwnD wr w0.heap.size u (edgesTo n k) ∧ Since w0 wr) (fun _ i _ => n.ends.length - (intOf i).toNat)
  case atStart => exact ⟨0, Nat.zero_le _, rfl, by simpa [edgesTo] using ownD_nil _ w0.heap.size, hs0⟩
  case round =>
    obtain ⟨k, hk, rfl, ho, hs⟩ := hrel
    have Ho := Lib.hid ho
    have Hs := Lib.hid hs
    clear hs0 ho hs
    by_cases hlt : k < n.ends.length
    · obtain ⟨es, hes⟩ := getx n.ends k hlt
      obtain ⟨hes6, -⟩ := netOk_row Hn.out hes
      have Hrow : Hid (rowOf n k = es) := by show _ = _; rw [rowOf, List.getD_eq_getElem?_getD, hes]; rfl
      obtain ⟨b, offr, cr, ur, hA1, hkr, hc1, hrow⟩ := row_at H.out.es hes
      cases hA1
      obtain ⟨A1, z1, rfl, hz1, hz2, hA1⟩ := hrow
      unfold maxLen at hz2
      have HA1 := Lib.hid hA1
      have r1 := lift_cell (have_cell hc1) Hs.out
      have q5 := r1 wr (since_refl _)
      have q0 := p00 wr Hs.out
      have hel := edgesTo_len Hn.out k
      have Hel := Lib.hid hel
      clear hes hc1 hA1 hel
      go_wp2
      go_loopw [3, 18] (fun u i wr => ∃ j : Nat, j ≤ es.length ∧ i = .int .i64 j ∧ OwnD wr w0.heap.size u (edgesTo n k ++ erow k es j) ∧ Since w0 wr) (fun _ i _ => es.length - (intOf i).toNat)
      case atStart => exact ⟨0, Nat.zero_le _, rfl, by simpa [erow] using Ho.out, Hs.out⟩
      case round =>
        obtain ⟨j, hj, rfl, ho, hs⟩ := hrel
        have Ho2 := Lib.hid ho
        have Hs2 := Lib.hid hs
        clear ho hs
        by_cases hlj : j < es.length
        · obtain ⟨⟨x1, x2⟩, hx⟩ := getx es j hlj
          obtain ⟨b1, off1, rfl, hd1, hd2⟩ := HA1.out j _ hx
          have t1 := have_cell hd1 wr Hs2.out
          have t2 := have_cell hd2 wr Hs2.out
          have Hgd : Hid (es.getD j (0, 0) = (x1, x2)) := getD_of hx
          obtain ⟨w8, hw8⟩ : ∃ w8, w8 = wr.alloc (.cells #[.int .i64 x1, .int .i64 x2] 91) := ⟨_, rfl⟩
          obtain ⟨be, hbe⟩ : ∃ be, be = wr.heap.size := ⟨_, rfl⟩
          have d0 : ∀ W, Since w8 W → W.cell? ⟨be, 0, none⟩ = some (.int .i64 x1) := have_cell (by rw [hw8, hbe]; simp)
          have d1 : ∀ W, Since w8 W → W.cell? ⟨be, 1, none⟩ = some (.int .i64 x2) := have_cell (by rw [hw8, hbe]; simp)
          have Ho8 : Hid (OwnD w8 w0.heap.size u3 (edgesTo n k ++ erow k es j)) := by rw [hw8]; exact Ho2.out.keep (since_alloc _ (since_refl _))
          have Hs8 : Hid (Since w0 w8) := by rw [hw8]; exact since_alloc _ Hs2.out
          have Hw8 := Lib.hid hw8
          have Hbe := Lib.hid hbe
          have m3 : IntKind.i64.wrap ((j : Int) + 1) = (j : Int) + 1 := wr64 _ (by omega) (by omega)
          clear hx hd1 hd2 hw8 hbe
          go_upto_region 8 with (fail)
          rw [← Hw8.out, ← Hbe.out]
          clear t1 t2
          refine wp_region_flow0 16 (Since w8) (since_refl _) ?_
          simp only [List.take_succ_cons, List.take_zero, List.drop_succ_cons, List.drop_zero]
          refine flow_val (v := ?_) rfl ?_ ?_; rotate_left; (intro W hW; go_simp; with_reducible rfl)
          simp only [Act.put, List.setIfInBounds_toArray, List.set_cons_succ, List.set_cons_zero]
          refine flow_val (v := ?_) rfl ?_ ?_; rotate_left; (intro W hW; go_simp; with_reducible rfl)
          simp only [Act.put, List.setIfInBounds_toArray, List.set_cons_succ, List.set_cons_zero]
          refine flow_val (v := ?_) rfl ?_ ?_; rotate_left; (intro W hW; go_simp; with_reducible rfl)
          simp only [Act.put, List.setIfInBounds_toArray, List.set_cons_succ, List.set_cons_zero]
          refine flow_val (v := ?_) rfl ?_ ?_; rotate_left; (intro W hW; go_simp; with_reducible rfl)
          simp only [Act.put, List.setIfInBounds_toArray, List.set_cons_succ, List.set_cons_zero]
          refine flow_val (v := ?_) rfl ?_ ?_; rotate_left; (intro W hW; go_simp; with_reducible rfl)
          simp only [Act.put, List.setIfInBounds_toArray, List.set_cons_succ, List.set_cons_zero]
          refine flow_gval (v := ?_) rfl rfl ?_ ?_; rotate_left; (intro hb; intro W hW; go_simp; with_reducible rfl)
          simp only [Act.put, List.setIfInBounds_toArray, List.set_cons_succ, List.set_cons_zero]
          refine flow_gval (v := ?_) rfl rfl ?_ ?_; rotate_left; (intro hb; intro W hW; go_simp; with_reducible rfl)
          simp only [Act.put, List.setIfInBounds_toArray, List.set_cons_succ, List.set_cons_zero]
          refine flow_gval (v := ?_) rfl rfl ?_ ?_; rotate_left; (intro hb; intro W hW; go_simp; with_reducible rfl)
          simp only [Act.put, List.setIfInBounds_toArray, List.set_cons_succ, List.set_cons_zero]
          refine flow_gval (v := ?_) rfl rfl ?_ ?_; rotate_left; (intro hb; intro W hW; go_simp; with_reducible rfl)
          simp only [Act.put, List.setIfInBounds_toArray, List.set_cons_succ, List.set_cons_zero]
          refine flow_gval (v := ?_) rfl rfl ?_ ?_; rotate_left; (intro hb; intro W hW; go_simp; with_reducible rfl)
          simp only [Act.put, List.setIfInBounds_toArray, List.set_cons_succ, List.set_cons_zero]
          refine flow_gval2 (v := ?_) rfl rfl ?_ ?_; rotate_left; (intro hb hb2; intro W hW; go_simp; with_reducible rfl)
          simp only [Act.put, List.setIfInBounds_toArray, List.set_cons_succ, List.set_cons_zero]
          refine flow_gval2 (v := ?_) rfl rfl ?_ ?_; rotate_left; (intro hb hb2; intro W hW; go_simp; with_reducible rfl)
          simp only [Act.put, List.setIfInBounds_toArray, List.set_cons_succ, List.set_cons_zero]
          refine flow_gval2 (v := ?_) rfl rfl ?_ ?_; rotate_left; (intro hb hb2; intro W hW; go_simp; with_reducible rfl)
          simp only [Act.put, List.setIfInBounds_toArray, List.set_cons_succ, List.set_cons_zero]
          refine flow_gval2 (v := ?_) rfl rfl ?_ ?_; rotate_left; (intro hb hb2; intro W hW; go_simp; with_reducible rfl)
          simp only [Act.put, List.setIfInBounds_toArray, List.set_cons_succ, List.set_cons_zero]
          refine flow_gand rfl rfl rfl ?_
          simp only [Act.put, List.setIfInBounds_toArray, List.set_cons_succ, List.set_cons_zero]
          first | refine flow_or rfl rfl ?_ | (refine flow_val (v := ?_) rfl ?_ ?_; rotate_left; (intro W hW; go_simp; with_reducible rfl))
          simp only [Act.put, List.setIfInBounds_toArray, List.set_cons_succ, List.set_cons_zero]
          intro W hW
          have HsW := Lib.hid (Hs8.out.after hW)
          have HoW := Lib.hid (Ho8.out.keep hW)
          have c0 := d0 W hW
          have c1 := d1 W hW
          have Hlen : Hid ((edgesTo n k ++ erow k es j).length + 1 ≤ 1000000) := by
            have h1 := Hel.out
            have h2 := erow_len k es j
            show _ ≤ _
            rw [List.length_append]
            omega
          have Hnx : Hid (edgesTo n k ++ erow k es (j + 1) = (edgesTo n k ++ erow k es j) ++ eone k j (x1, x2)) := by show _ = _; rw [erow_succ, Hgd.out, List.append_assoc]
          cases hg : (decide ((k : Int) < x1) || ((k : Int) == x1 && decide ((j : Int) ≤ x2)))
          · have Hno : Hid (eone k j (x1, x2) = []) := by show _ = _; unfold eone; rw [if_neg]; rw [show keepE k j (x1, x2) = false from hg]; simp
            clear hg hW d0 d1 c0 c1
            go_wp2
            go_roundw
            case rel => exact ⟨j + 1, by omega, by go_num, by rw [Hnx.out, Hno.out, List.append_nil]; exact HoW.out, HsW.out⟩
            case measure => simp [intOf]; omega
          · have Hyes : Hid (eone k j (x1, x2) = [((k : Int), (j : Int), x1, x2)]) := by show _ = _; unfold eone; rw [if_pos (show keepE k j (x1, x2) = true from hg)]
            clear hg hW d0 d1
            go_wp2_with (at_builtin; refine app_edge rfl _ _ rfl rfl (HoW.out.keep (since_alloc _ (since_refl _))) W.heap.size ((k : Int), (j : Int), x1, x2) rfl (by simp [go_sem]) (by simp [go_sem]) (by simp [go_sem]) (by simp [go_sem]) Hlen.out (since_alloc _ HsW.out) ?_; intro g9 c9 w9 ho9 hs9)
            have Ho9 := Lib.hid ho9
            have Hs9 := Lib.hid hs9
            clear ho9 hs9 c0 c1
            go_wp2
            go_roundw
            case rel => exact ⟨j + 1, by omega, by go_num, by rw [Hnx.out, Hyes.out]; have := Ho9.out; first | exact this | (rw [List.length_append] at this; exact this), Hs9.out⟩
            case measure => simp [intOf]; omega
        · obtain rfl : j = es.length := by omega
          have Hnx : Hid (edgesTo n (k + 1) = edgesTo n k ++ erow k es es.length) := by show _ = _; rw [edgesTo_succ, Hrow.out]
          have m3 : IntKind.i64.wrap ((k : Int) + 1) = (k : Int) + 1 := wr64 _ (by omega) (by omega)
          go_wp2
          go_roundw
          case rel => exact ⟨k + 1, by omega, by go_num, by rw [Hnx.out]; exact Ho2.out, Hs2.out⟩
          case measure => simp [intOf]; omega
    · obtain rfl : k = n.ends.length := by omega
      go_wp2
      go_ret
      exact ⟨_, rfl, Ho.out.mono Hb0.out.size, Since.after Hb0.out Hs.out⟩
end Go.Proofs.Ytlfehdikgbgloaa
namespace Go.Proofs.Ytlfehdikgbgloaa
open Go.RowKit
/-! a slice of integers of the call's own that begins anywhere in its row (a queue) -/
def QA (W : World) (base g off cap : Nat) (xs : List Int) : Prop :=
  base ≤ g ∧ xs.length ≤ cap ∧ cap ≤ maxLen ∧ ∃ cur : Array Value, W.heap[g]? = some (.cells cur 3 (0, 0)) ∧ off + cap ≤ cur.size ∧ ∀ j x, xs[j]? = some x → cur[off + j]? = some (.int .i64 x)
theorem QA.cell {W : World} {base g off cap : Nat} {xs : List Int} (h : QA W base g off cap xs) {j : Nat} {x : Int} (hx : xs[j]? = some x) : W.cell? ⟨g, off + j, none⟩ = some (.int .i64 x) := by
  obtain ⟨-, -, -, cur, h1, -, h3⟩ := h
  simp [World.cell?, h1, h3 j x hx]
theorem QA.lt {W : World} {base g off cap : Nat} {xs : List Int} (h : QA W base g off cap xs) : g < W.heap.size := by
  obtain ⟨-, -, -, cur, h1, -⟩ := h
  exact (Array.getElem?_eq_some_iff.1 h1).1
theorem QA.stable {W W' : World} {base g off cap : Nat} {xs : List Int} (h : QA W base g off cap xs) (hs : W'.heap[g]? = W.heap[g]?) : QA W' base g off cap xs := by
  obtain ⟨h1, h2, h3, cur, h4, h5⟩ := h
  exact ⟨h1, h2, h3, cur, hs.trans h4, h5⟩
theorem QA.since {W W' : World} {base g off cap : Nat} {xs : List Int} (h : QA W base g off cap xs) (hs : Since W W') : QA W' base g off cap xs := h.stable (hs.below.block g h.lt)
theorem QA.other {W : World} {base g off cap : Nat} {xs : List Int} (h : QA W base g off cap xs) {b : Nat} (hb : g ≠ b) (k : Nat) (v : Value) : QA (W.setCell ⟨b, k, none⟩ v) base g off cap xs := h.stable (Below.heap_setCell W _ v g hb)
theorem QA.tail {W : World} {base g off cap : Nat} {x : Int} {xs : List Int} (h : QA W base g off cap (x :: xs)) : QA W base g (off + 1) (cap - 1) xs := by
  obtain ⟨h1, h2, h3, cur, h4, h5, h6⟩ := h
  rw [List.length_cons] at h2
  exact ⟨h1, by omega, by omega, cur, h4, by omega, fun j y hy => by
    have := h6 (j + 1) y (by simpa using hy)
    rwa [show off + (j + 1) = off + 1 + j by omega] at this⟩
theorem QA.nil {W : World} {base g off cap : Nat} {xs : List Int} (h : QA W base g off cap xs) : QA W base g off 0 [] := by
  obtain ⟨h1, h2, h3, cur, h4, h5, h6⟩ := h
  exact ⟨h1, Nat.le_refl _, Nat.zero_le _, cur, h4, by omega, fun j y hy => by simp at hy⟩
theorem QA.one (W : World) (base : Nat) (x : Int) (h : base ≤ W.heap.size) : QA (W.alloc (.cells #[.int .i64 x] 3)) base W.heap.size 0 1 [x] := by
  refine ⟨h, Nat.le_refl _, by simp [maxLen], #[.int .i64 x], ?_, by simp, fun j y hy => ?_⟩
  · show (W.heap.push _)[W.heap.size]? = _
    rw [Array.getElem?_push_size]
  · have := lt_of_get hy
    simp at this
    subst this
    simpa using hy
theorem app_q {w w0 : World} {ops : Array Oper} {rest : List Oper} {o : Oper} {a : Act} {Q : Exit → Act → World → Prop} (hgd : o.guard = none) (s x : Operand)
    (ho : o.op = .call { callee := .builtin .append, args := #[s, x], argTypes := #[23, 23] }) {g off cap : Nat} {xs : List Int} (hs : a.eval s = .slice (some ⟨g, off, none⟩) xs.length cap) (h : QA w w0.heap.size g off cap xs) (b : Nat) (y : Int)
    (hx : a.eval x = .slice (some ⟨b, 0, none⟩) 1 1) (hc : w.cell? ⟨b, 0, none⟩ = some (.int .i64 y)) (hl : xs.length + 1 ≤ 1000000) (hsn : Since w0 w)
    (k : ∀ g' off' cap' w', QA w' w0.heap.size g' off' cap' (xs ++ [y]) → Only [g] w w' → (g' = g ∨ w.heap.size ≤ g') → Since w0 w' → wpList Try.prog ops Q rest (a.put o.dst (.slice (some ⟨g', off', none⟩) (xs.length + 1) cap')) w') : wpList Try.prog ops Q (o :: rest) a w := by
  obtain ⟨i0, hi, hz0, hz1, hz2⟩ := info_parts int_info
  have hq := h
  obtain ⟨h1, h2, h3, cur, h4, h5, h6⟩ := h
  refine wpList_append_arg w hgd s x 23 ho 3 i0 (.int .i64 0) 1 8 Try.underlying23 hi hz0 hz1 hz2 rfl (by decide) g off xs.length cap (xs.map (Value.int .i64)) hs (by simp)
    (fun j u hj => by
      rw [List.getElem?_map] at hj
      cases hxj : xs[j]? with
      | none => rw [hxj] at hj; cases hj
      | some z => rw [hxj] at hj; cases hj; exact hq.cell hxj)
    ⟨b, 0, none⟩ 1 1 [.int .i64 y] hx rfl
    (fun j u hj => by
      have := lt_of_get hj
      simp at this
      subst this
      simp at hj
      subst hj
      rw [Go.Addr.add_lit]
      exact hc)
    (by simp [Value.oneCell'])
    (fun hr j hj => by
      simp at hj
      subst hj
      have hlt : off + xs.length * 1 + 0 < cur.size := by omega
      constructor
      · simp [World.cell?, h4]
        omega
      · simp [World.frozen?, h4])
    (by unfold maxLen; omega) (by omega) ?_ ?_
  · intro hr
    have hlt : off + xs.length < cur.size := by omega
    have e : w.setCells g (off + xs.length * 1) [.int .i64 y] = w.setCell ⟨g, off + xs.length, none⟩ (.int .i64 y) := by rw [Nat.mul_one]; rfl
    rw [e]
    refine k g off cap _ ⟨h1, by simp; omega, h3, cur.setIfInBounds (off + xs.length) (.int .i64 y), ?_, by simpa using h5, fun j z hj => ?_⟩ ((Only.refl _ _).setCell (.inl (by simp)) _) (.inl rfl) (Below.setCell hsn h1 _)
    · simp [World.setCell, Array.getElem?_modify, h4]
    · by_cases e2 : j = xs.length
      · subst e2
        simp at hj
        subst hj
        simp [hlt]
      · have hj2 : xs[j]? = some z := by
          have hjl := lt_of_get hj
          rw [List.length_append, List.length_singleton] at hjl
          rwa [List.getElem?_append_left (by omega)] at hj
        rw [Array.getElem?_setIfInBounds_ne (by omega)]
        exact h6 j z hj2
  · intro hr v' w' hown hgrow
    rcases hown.2 with ⟨rfl, hn⟩ | ⟨g', cap', cur', rfl, hb', hg', hn', hc', hsz', htk⟩
    · omega
    · refine k g' 0 cap' w' ⟨by have := hsn.below.size; omega, by simpa using hn', hc', cur', hg', by omega, fun j z hj => ?_⟩ ((Only.of_grown hgrow).mono (fun _ h => by simp at h)) (.inr hb') (Below.trans hsn ((Only.of_grown hgrow).below _ hsn.below.size (fun _ h => by simp at h)))
      have e3 : (xs.map (Value.int .i64) ++ [.int .i64 y])[j]? = some (.int .i64 z) := by
        have : (xs.map (Value.int .i64) ++ [.int .i64 y]) = (xs ++ [y]).map (Value.int .i64) := by simp
        rw [this, List.getElem?_map, hj]; rfl
      rw [← htk] at e3
      have hj3 := lt_of_get e3
      rw [List.getElem?_take] at e3
      split at e3
      · rw [Nat.zero_add]; simpa using e3
      · cases e3
end Go.Proofs.Ytlfehdikgbgloaa
