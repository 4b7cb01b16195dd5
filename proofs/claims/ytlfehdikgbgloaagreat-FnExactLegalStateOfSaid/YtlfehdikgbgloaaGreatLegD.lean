import Derived.Test.YtlfehdikgbgloaaGreatStab8
import Derived.Test.YtlfehdikgbgloaaGreatLegalMatch
import Derived.Test.YtlfehdikgbgloaaGreatSrch4
namespace Go.Proofs.YtlfehdikgbgloaaGreat
open Go.RowKit
theorem nw1_ent : ∀ args w, (callFunc 193 args).run Tryz.prog w = .ok (.enter 193 args) w := enters_of Tryz.func193 (by kernel_rfl) rfl
set_option maxHeartbeats 1600000 in
theorem nw1_any (vl : Value) (xs : List Int) (x : Int) (k b : Nat) (w : World) (hl : IntS w vl xs) (hk : k < xs.length) (c0 : w.cell? ⟨b, 0, none⟩ = some vl) (c1 : w.cell? ⟨b + 1, 0, none⟩ = some (.int .i64 x)) :
    Calls Tryz.prog 193 #[.int .i64 k, .pointer (some ⟨b, 0, none⟩), .pointer (some ⟨b + 1, 0, none⟩)] w fun e w' => e = .returned (.bool (xs.getD k 0 != x)) ∧ Below w.heap.size w w' := by
  obtain ⟨m1, bl, ol, cl, y, e0, rfl, hm1, hg0, hg1, hd⟩ := lab_at hl (x := (k : Int)) (by omega) (by omega)
  obtain rfl : k = m1 := by omega
  rw [Int.toNat_natCast] at hg1
  obtain ⟨_, _, hv0, hlL, hmL, _⟩ := id hl
  cases hv0
  unfold maxLen at hmL
  have q0 := have_cell c0
  have q1 := have_cell c1
  have qd := have_cell hd
  rw [hg1]
  clear hl c0 c1 hd hg0 hg1 e0
  go_enter Tryz.func193, Tryz.ntmps193
  go_upto_region 1 with (fail)
  refine wp_region_flow 7 (Since w) (by kernel_rfl) (by kernel_rfl) (by simp) (since_drew (since_refl _)) ?_
  simp only [List.take_succ_cons, List.take_zero, List.drop_succ_cons, List.drop_zero]
  refine flow_val (v := ?_) rfl ?_ ?_; rotate_left; (intro W hW; go_simp; with_reducible rfl)
  simp only [Act.put, List.setIfInBounds_toArray, List.set_cons_succ, List.set_cons_zero]
  refine flow_val (v := ?_) rfl ?_ ?_; rotate_left; (intro W hW; go_simp; with_reducible rfl)
  simp only [Act.put, List.setIfInBounds_toArray, List.set_cons_succ, List.set_cons_zero]
  refine flow_val (v := ?_) rfl ?_ ?_; rotate_left; (intro W hW; go_simp; with_reducible rfl)
  simp only [Act.put, List.setIfInBounds_toArray, List.set_cons_succ, List.set_cons_zero]
  refine flow_val (v := ?_) rfl ?_ ?_; rotate_left; (intro W hW; go_simp; with_reducible rfl)
  simp only [Act.put, List.setIfInBounds_toArray, List.set_cons_succ, List.set_cons_zero]
  refine flow_val (v := ?_) rfl ?_ ?_; rotate_left; (intro W hW; go_simp; with_reducible rfl)
  simp only [Act.put, List.setIfInBounds_toArray, List.set_cons_succ, List.set_cons_zero]
  refine flow_val (v := ?_) rfl ?_ ?_; rotate_left; (intro W hW; go_simp; with_reducible rfl)
  simp only [Act.put, List.setIfInBounds_toArray, List.set_cons_succ, List.set_cons_zero]
  refine flow_val (v := ?_) rfl ?_ ?_; rotate_left; (intro W hW; go_simp; with_reducible rfl)
  simp only [Act.put, List.setIfInBounds_toArray, List.set_cons_succ, List.set_cons_zero]
  intro W hW
  have HW := Lib.hid hW
  clear hW
  go_wp2
  go_ret
  exact ⟨rfl, HW.out⟩
set_option maxRecDepth 100000 in
set_option maxHeartbeats 1600000 in
theorem nodesWith_any (vl : Value) (xs : List Int) (x : Int) (w : World) (hl : IntS w vl xs) (hle : xs.length ≤ 1000000) :
    Calls Tryz.prog 141 #[vl, .int .i64 x] w fun e w' => ∃ u, e = .returned u ∧ Own w' w.heap.size u (keptB (fun v => xs.getD v.toNat 0 != x) (upto xs.length)) ∧ Below w.heap.size w w' := by
  have HL0 := Lib.hid hl
  obtain ⟨AL, cL, rfl, hlL, hmL, _⟩ := hl
  unfold maxLen at hmL
  obtain ⟨w0, hw0⟩ : ∃ w0, w0 = ((w).alloc (.cells #[.slice AL xs.length cL] 23)).alloc (.cells #[.int .i64 x] 3) := ⟨_, rfl⟩
  have hb0 : Below w.heap.size w w0 := by rw [hw0]; exact (((Below.refl _ _).alloc (by simp <;> omega) _).alloc (by simp <;> omega) _)
  have p00 : ∀ W, Since w0 W → W.cell? ⟨w.heap.size, 0, none⟩ = some (.slice AL xs.length cL) := have_cell (by rw [hw0]; simp)
  have p10 : ∀ W, Since w0 W → W.cell? ⟨w.heap.size + 1, 0, none⟩ = some (.int .i64 x) := have_cell (by rw [hw0]; simp)
  have Hb0 := Lib.hid hb0
  have Hw0 := Lib.hid hw0
  clear hb0 hw0
  have HL := Lib.hid (HL0.out.keep Hb0.out)
  have HP : Hid (PredOn w0 193 #[.pointer (some ⟨w.heap.size, 0, none⟩), .pointer (some ⟨w.heap.size + 1, 0, none⟩)] (fun v => xs.getD v.toNat 0 != x) (upto xs.length)) := by
    intro y hy X hX
    obtain ⟨k, hk, rfl⟩ := List.mem_map.1 hy
    have hk' := List.mem_range.1 hk
    exact nw1_any (.slice AL xs.length cL) xs x k w.heap.size X (HL.out.keep hX) hk' (p00 X hX) (p10 X hX)
  have hs0 : Since w0 w0 := since_refl _
  go_enter Tryz.func141, Tryz.ntmps141
  go_upto_region 1 with (fail)
  rw [← Hw0.out]
  go_wp2_with fail
  refine (numbersTo_any xs.length hle w0).mono ?_
  rintro e W3 ⟨u3, rfl, ho3, hb3⟩
  have Ho3 := Lib.hid ho3
  have Hs3 : Hid (Since w0 W3) := hb3
  clear ho3 hb3 hs0
  go_wp2_with fail
  refine (deleteFunc_any _ (upto xs.length) _ _ (fun v => xs.getD v.toNat 0 != x) _ w0 Ho3.out Hs3.out (by rw [upto_len]; omega) nw1_ent HP.out).mono ?_
  rintro e W4 ⟨u4, rfl, ho4, hs4⟩
  have Ho4 := Lib.hid ho4
  have Hs4 := Lib.hid hs4
  clear ho4 hs4
  go_wp2
  go_ret
  exact ⟨_, rfl, Ho4.out.mono Hb0.out.size, Since.after Hb0.out Hs4.out⟩
theorem trPut_of {n : Net} {out zs : List Int} {w : Int} (hl : zs.length = n.ends.length) (h : ∀ v, v < n.ends.length → zs.getD v 0 = trStep ((distB n w.toNat).getD v 0) (out.getD v 0)) : zs = trPut n out w := by
  apply List.ext_getElem
  · rw [hl]; simp [trPut]
  · intro v h1 h2
    have hv : v < n.ends.length := by rw [← hl]; exact h1
    have e := h v hv
    rw [List.getD_eq_getElem?_getD, List.getElem?_eq_getElem h1] at e
    have e2 : (trPut n out w).getD v 0 = _ := range_getD hv
    rw [List.getD_eq_getElem?_getD, List.getElem?_eq_getElem h2] at e2
    simp only [Option.getD_some] at e e2
    rw [e, e2]
theorem Own.at {W : World} {base n c k : Nat} {A : Option Addr} {xs : List Int} {x : Int} (h : Own W base (.slice A n c) xs) (hx : xs[k]? = some x) : ∃ b off, A = some ⟨b, off, none⟩ ∧ W.cell? ⟨b, off + k, none⟩ = some (.int .i64 x) := by
  obtain ⟨A', c', e, _, _, hc⟩ := h.ints
  cases e
  exact hc k x hx
theorem net_inp {n : Net} (hn : netOk n = true) : n.inputs.length = n.ends.length := by
  unfold netOk inputsB at hn
  simp only [Bool.and_eq_true, beq_iff_eq] at hn
  omega
def inpB (n : Net) (v : Int) : Bool := n.inputs.getD v.toNat 0 != 1
theorem roots_inp (n : Net) : rootsB n = keptB (inpB n) (upto n.inputs.length) := rfl
set_option maxRecDepth 100000 in
set_option maxHeartbeats 1600000 in
theorem treeStates_any (ve vi vn : Value) (n : Net) (w : World) (h : NetIn w ve vi vn n) (hn : netOk n = true) :
    Calls Tryz.prog 77 #[.agg #[ve, vi, vn]] w fun e w' => ∃ u, e = .returned u ∧ Own w' w.heap.size u (farsB n) ∧ Below w.heap.size w w' := by
  have hnl := netOk_len hn
  rw [← trees_eq hn]
  obtain ⟨w0, hw0⟩ : ∃ w0, w0 = (w).alloc (.cells #[ve, vi, vn] 31) := ⟨_, rfl⟩
  have hb0 : Below w.heap.size w w0 := by rw [hw0]; exact ((Below.refl _ _).alloc (by simp) _)
  have H := Lib.hid (h.keep hb0)
  obtain ⟨h1, h2, h3⟩ := h.keep hb0
  obtain ⟨A, c, rfl, hlc, hm, hA⟩ := h1
  obtain ⟨A2, c2, rfl, _, hm2, _⟩ := h2
  obtain ⟨A3, c3, rfl, _, hm3, _⟩ := h3
  unfold maxLen at hm hm2 hm3
  have p00 : ∀ W, Since w0 W → W.cell? ⟨w.heap.size, 0, none⟩ = some (.slice A n.ends.length c) := have_cell (by rw [hw0]; simp)
  have p01 : ∀ W, Since w0 W → W.cell? ⟨w.heap.size, 1, none⟩ = some (.slice A2 n.ids.length c2) := have_cell (by rw [hw0]; simp)
  have p02 : ∀ W, Since w0 W → W.cell? ⟨w.heap.size, 2, none⟩ = some (.slice A3 n.inputs.length c3) := have_cell (by rw [hw0]; simp)
  have Hb0 := Lib.hid hb0
  have Hw0 := Lib.hid hw0
  have HA := Lib.hid hA
  clear hA h
  clear hb0 hw0
  have Hn := Lib.hid hn
  obtain ⟨rs, hrs⟩ : ∃ rs, rs = rootsB n := ⟨_, rfl⟩
  have hrl : rs.length ≤ 40 := by
    rw [hrs]
    have := kept_le (fun v => n.inputs.getD v.toNat 0 != 1) (upto n.inputs.length)
    rw [upto_len] at this
    have h2 := net_inp hn
    unfold rootsB
    omega
  have Hrb : Hid (∀ x ∈ rs, 0 ≤ x ∧ x < n.ends.length) := fun x hx => rootsB_mem hn (by rw [← hrs]; exact hx)
  have hN := nodesWith_any (.slice A3 n.inputs.length c3) n.inputs 1
  have HN : Hid (∀ W, Since w0 W → Calls Tryz.prog 141 #[.slice A3 n.inputs.length c3, .int .i64 1] W fun e w' => ∃ u, e = .returned u ∧ Own w' W.heap.size u rs ∧ Below W.heap.size W w') := fun W hW => by
    rw [hrs]; exact nodesWith_any _ n.inputs 1 W (H.out.keep hW.below).2.2 (by rw [net_inp hn]; omega)
  have Hrs := Lib.hid hrs
  clear hn hrs hN
  go_enter Tryz.func77, Tryz.ntmps77
  go_upto_region 1 with (fail)
  rw [← Hw0.out]
  have hs0 : Since w0 w0 := since_refl _
  go_wp2_with fail
  refine (repeat1_any w0.heap.size 1 (n.ends.length : Int) n.ends.length _ hnl.1 (by omega) (by simp)).mono ?_
  rintro e w1 ⟨u1, rfl, ho1, hb1⟩
  rcases ho1.cases with ⟨-, e1⟩ | ⟨g, c1, rfl, hg1, hg2⟩
  · have := congrArg List.length e1; rw [List.length_replicate, List.length_nil] at this; omega
  rw [List.length_replicate] at ho1 ⊢
  have hs1 : Since w0 w1 := Since.after (since_alloc _ (since_refl _)) hb1
  have hgw : w0.heap.size ≤ g := by have := hg1; simp at this; omega
  have Ho1 : Hid (Own w1 w0.heap.size (.slice (some ⟨g, 0, none⟩) n.ends.length c1) (List.replicate n.ends.length (n.ends.length : Int))) := ho1.mono (by simp)
  clear ho1 hb1 hs0 hg1 hg2
  go_wp2_with fail
  refine (HN.out w1 hs1).mono ?_
  rintro e w2 ⟨u2, rfl, ho2, hb2⟩
  have hs2 : Since w0 w2 := hs1.trans hb2
  have Ho2 := Lib.hid (Ho1.out.keep hb2)
  have hne : u2.ownBlock ≠ some g := fun e => by
    have h1 := (World.ownsRow.lt ho2 g e).1
    have h2 := (World.ownsRow.lt Ho1.out g rfl).2
    omega
  obtain ⟨Bu, du, rfl, hld, hmd, _⟩ := id ho2.ints
  unfold maxLen at hmd
  have HoR := Lib.hid (ho2.mono (Since.below hs1).size)
  have Hne := Lib.hid hne
  clear hb2 ho2 hs1 hne
  go_wp2
  go_loopw [20] (fun i wr => ∃ (k : Nat) (out : List Int), k ≤ rs.length ∧ i = .int .i64 k ∧ out = (rs.take k).foldl (trPut n) (List.replicate n.ends.length (n.ends.length : Int)) ∧ Own wr w0.heap.size (.slice (some ⟨g, 0, none⟩) n.ends.length c1) out ∧ Own wr w0.heap.size (.slice Bu rs.length du) rs ∧ Since w0 wr) (fun i _ => rs.length - (intOf i).toNat)
  case atStart => exact ⟨0, _, Nat.zero_le _, rfl, rfl, Ho2.out, HoR.out, hs2⟩
  case round =>
    obtain ⟨k, out, hk, rfl, hout, ho, hor, hsr⟩ := hrel
    have Ho := Lib.hid ho
    have HoR := Lib.hid hor
    have Hol := Lib.hid ho.len
    have Hout := Lib.hid hout
    clear ho hout hor hs2
    by_cases hlt : k < rs.length
    · obtain ⟨x, hx⟩ := getx rs k hlt
      obtain ⟨b, off, rfl, d0⟩ := Own.at HoR.out hx
      obtain ⟨x0, x1⟩ := Hrb.out x (List.mem_of_getElem? hx)
      obtain ⟨q, rfl⟩ := Int.eq_ofNat_of_zero_le x0
      have hq : q < n.ends.length := by omega
      have hcall := distancesFrom_any _ _ _ n q wr (H.out.keep hsr.below) Hn.out hq
      obtain ⟨ds, hds⟩ : ∃ ds, ds = distB n q := ⟨_, rfl⟩
      rw [← hds] at hcall
      have Hcall := Lib.hid hcall
      have hdl : ds.length = n.ends.length := by rw [hds]; exact (dist_of Hn.out hq).len
      have Hdl := Lib.hid hdl
      have Hnx : Hid (∀ zs : List Int, zs.length = n.ends.length → (∀ v, v < n.ends.length → zs.getD v 0 = trStep (ds.getD v 0) (out.getD v 0)) → zs = (rs.take (k + 1)).foldl (trPut n) (List.replicate n.ends.length (n.ends.length : Int))) := fun zs h1 h2 => by
        rw [take_snoc hx, List.foldl_append, ← Hout.out]
        exact trPut_of h1 (by rw [Int.toNat_natCast, ← hds]; exact h2)
      have m3 : IntKind.i64.wrap ((k : Int) + 1) = (k : Int) + 1 := wr64 _ (by omega) (by omega)
      clear hx hds hdl hcall
      go_wp2_with fail
      refine Hcall.out.mono ?_
      rintro e w3 ⟨u3, rfl, ho3, hb3⟩
      have hs3 : Since w0 w3 := hsr.trans hb3
      have Ho3 := Lib.hid (Ho.out.keep hb3)
      have HoR3 := Lib.hid (HoR.out.keep hb3)
      have hne3 : u3.ownBlock ≠ some g := fun e => by
        have h1 := (World.ownsRow.lt ho3 g e).1
        have h2 := (World.ownsRow.lt Ho.out g rfl).2
        omega
      obtain ⟨B3, d3, rfl, hld3, hmd3, _⟩ := id ho3.ints
      unfold maxLen at hmd3
      have HoD := Lib.hid (ho3.mono (Since.below hsr).size)
      have Hne3 := Lib.hid hne3
      clear hb3 ho3 hsr hne3 d0
      go_wp2
      go_loopw [28] (fun i wr => ∃ (j : Nat) (zs : List Int), j ≤ ds.length ∧ i = .int .i64 j ∧ (∀ v, v < n.ends.length → zs.getD v 0 = if v < j then trStep (ds.getD v 0) (out.getD v 0) else out.getD v 0) ∧ Own wr w0.heap.size (.slice (some ⟨g, 0, none⟩) n.ends.length c1) zs ∧ Own wr w0.heap.size (.slice (some ⟨b, off, none⟩) rs.length du) rs ∧ Own wr w0.heap.size (.slice B3 ds.length d3) ds ∧ Since w0 wr) (fun i _ => ds.length - (intOf i).toNat)
      case atStart => exact ⟨0, out, Nat.zero_le _, rfl, fun v _ => by rw [if_neg (Nat.not_lt_zero _)], Ho3.out, HoR3.out, HoD.out, hs3⟩
      case round =>
        obtain ⟨j, zs, hj, rfl, hz, ho, hor, hod, hsr⟩ := hrel
        have Hz := Lib.hid hz
        have Hzl := Lib.hid ho.len
        have Ho := Lib.hid ho
        have HoR := Lib.hid hor
        have HoD := Lib.hid hod
        clear hz ho hor hod hs3
        by_cases hlt2 : j < ds.length
        · obtain ⟨d, hd⟩ := getx ds j hlt2
          obtain ⟨b5, off5, rfl, d5⟩ := Own.at HoD.out hd
          have hjn : j < n.ends.length := by rw [← Hdl.out]; exact hlt2
          obtain ⟨a, ha⟩ := getx zs j (by rw [Hzl.out]; exact hjn)
          have cz := Ho.out.cell ha
          have fz := Ho.out.free j
          have ha2 : Hid (a = out.getD j 0) := by have := Hz.out j hjn; rw [getD_of ha, if_neg (Nat.lt_irrefl _)] at this; exact this
          have hdj : Hid (ds.getD j 0 = d) := getD_of hd
          have m4 : IntKind.i64.wrap ((j : Int) + 1) = (j : Int) + 1 := wr64 _ (by omega) (by omega)
          clear hd ha
          by_cases h0 : 0 ≤ d
          · have hdd0 : decide (d ≥ 0) = true := decide_eq_true h0
            have Hn1 : Hid (∀ v, v < n.ends.length → (zs.set j (min a d)).getD v 0 = if v < j + 1 then trStep (ds.getD v 0) (out.getD v 0) else out.getD v 0) := fun v hv => by
              by_cases e : v = j
              · subst e
                rw [getD_set_eq (by rw [Hzl.out]; exact hv), if_pos (by omega), hdj.out, ← ha2.out]
                unfold trStep
                rw [if_pos h0]
              · rw [getD_set_ne (Ne.symm e), Hz.out v hv]
                by_cases hvj : v < j
                · rw [if_pos hvj, if_pos (by omega)]
                · rw [if_neg hvj, if_neg (by omega)]
            have Hz1 := Lib.hid (Ho.out.set (k := j) (min a d))
            have HoR1 := Lib.hid (own_oth (k := j) HoR.out Hne.out (.int .i64 (min a d)))
            have HoD1 := Lib.hid (own_oth (k := j) HoD.out Hne3.out (.int .i64 (min a d)))
            have Hs5 := Lib.hid (show Since w0 (wr.setCell ⟨g, j, none⟩ (.int .i64 (min a d))) from Below.setCell hsr hgw _)
            clear h0 hsr
            go_wp2
            go_roundw
            case rel => exact ⟨j + 1, zs.set j (min a d), by omega, by go_num, Hn1.out, Hz1.out, HoR1.out, HoD1.out, Hs5.out⟩
            case measure => simp [intOf]; omega
          · have hdd0 : decide (d ≥ 0) = false := decide_eq_false h0
            have Hn1 : Hid (∀ v, v < n.ends.length → zs.getD v 0 = if v < j + 1 then trStep (ds.getD v 0) (out.getD v 0) else out.getD v 0) := fun v hv => by
              rw [Hz.out v hv]
              by_cases e : v = j
              · subst e
                rw [if_neg (Nat.lt_irrefl _), if_pos (by omega), hdj.out]
                unfold trStep
                rw [if_neg h0]
              · by_cases hvj : v < j
                · rw [if_pos hvj, if_pos (by omega)]
                · rw [if_neg hvj, if_neg (by omega)]
            clear h0 cz fz
            go_wp2
            go_roundw
            case rel => exact ⟨j + 1, zs, by omega, by go_num, Hn1.out, Ho.out, HoR.out, HoD.out, hsr⟩
            case measure => simp [intOf]; omega
        · have Hzs : Hid (zs = (rs.take (k + 1)).foldl (trPut n) (List.replicate n.ends.length (n.ends.length : Int))) := Hnx.out zs Hzl.out (fun v hv => by rw [Hz.out v hv, if_pos (by rw [← Hdl.out] at hv; omega)])
          have hje : j = ds.length := by omega
          subst hje
          go_wp2
          go_roundw
          case rel => exact ⟨k + 1, zs, by omega, by go_num, Hzs.out, Ho.out, HoR.out, hsr⟩
          case measure => simp [intOf]; omega
    · obtain rfl : k = rs.length := by omega
      have Hr : Hid (treesB n = out) := by show _ = _; rw [Hout.out, List.take_length, Hrs.out]; rfl
      go_wp2
      go_ret
      exact ⟨_, rfl, by rw [Hr.out]; exact Ho.out.mono Hb0.out.size, Since.after Hb0.out hsr⟩
-- the reference's way
theorem ruFar_bd {n : Net} (hn : netOk n = true) {v : Nat} (hv : v < n.ends.length) (set : List Int) (hs : ∀ w ∈ set, 0 ≤ w ∧ w < n.ends.length) : -1 ≤ ruFarB n set v := (ruFar_mem hn hv set (-1) hs (by omega)).2
set_option maxRecDepth 100000 in
set_option maxHeartbeats 1600000 in
theorem ruFar_any (ve vi vn vs : Value) (n : Net) (set : List Int) (v : Nat) (w : World) (h : NetIn w ve vi vn n) (hn : netOk n = true) (hse : IntS w vs set) (hv : v < n.ends.length) (hs : ∀ w ∈ set, 0 ≤ w ∧ w < n.ends.length) (hsl : set.length ≤ 1000000) :
    Calls Tryz.prog 184 #[.agg #[ve, vi, vn], vs, .int .i64 v] w fun e w' => e = .returned (.int .i64 (ruFarB n set v)) ∧ Below w.heap.size w w' := by
  have hnl := netOk_len hn
  obtain ⟨w0, hw0⟩ : ∃ w0, w0 = (w).alloc (.cells #[ve, vi, vn] 31) := ⟨_, rfl⟩
  have hb0 : Below w.heap.size w w0 := by rw [hw0]; exact ((Below.refl _ _).alloc (by simp) _)
  have H := Lib.hid (h.keep hb0)
  obtain ⟨h1, h2, h3⟩ := h.keep hb0
  obtain ⟨A, c, rfl, hlc, hm, hA⟩ := h1
  obtain ⟨A2, c2, rfl, _, hm2, _⟩ := h2
  obtain ⟨A3, c3, rfl, _, hm3, _⟩ := h3
  unfold maxLen at hm hm2 hm3
  have p00 : ∀ W, Since w0 W → W.cell? ⟨w.heap.size, 0, none⟩ = some (.slice A n.ends.length c) := have_cell (by rw [hw0]; simp)
  have p01 : ∀ W, Since w0 W → W.cell? ⟨w.heap.size, 1, none⟩ = some (.slice A2 n.ids.length c2) := have_cell (by rw [hw0]; simp)
  have p02 : ∀ W, Since w0 W → W.cell? ⟨w.heap.size, 2, none⟩ = some (.slice A3 n.inputs.length c3) := have_cell (by rw [hw0]; simp)
  have Hb0 := Lib.hid hb0
  have Hw0 := Lib.hid hw0
  have HA := Lib.hid hA
  clear hA h
  clear hb0 hw0
  obtain ⟨AP, cP, rfl, hlP, hmP, hAP⟩ := hse
  unfold maxLen at hmP
  have HS := Lib.hid (show ∀ k x, set[k]? = some x → ∃ b off, AP = some ⟨b, off, none⟩ ∧ w0.cell? ⟨b, off + k, none⟩ = some (.int .i64 x) from fun k x hx => by obtain ⟨b, off, e, hc⟩ := hAP k x hx; exact ⟨b, off, e, bc Hb0.out hc⟩)
  have Hin := Lib.hid hs
  have hcall := meFrom_any _ _ _ n v w0 H.out hn hv
  obtain ⟨ds, hds⟩ : ∃ ds, ds = distB n v := ⟨_, rfl⟩
  have HR : Hid (ruFarB n set v = set.foldl (ruStep ds) (-1)) := by show _ = _; unfold ruFarB; rw [← hds]
  rw [← hds] at hcall
  have Hcall := Lib.hid hcall
  have Hdl : Hid (ds.length = n.ends.length) := by show _ = _; rw [hds]; exact (dist_of hn hv).len
  have hs0 : Since w0 w0 := since_refl _
  clear hAP hs hcall hds
  go_enter Tryz.func184, Tryz.ntmps184
  go_upto_region 1 with (fail)
  rw [← Hw0.out]
  go_wp2_with fail
  refine Hcall.out.mono ?_
  rintro e w1 ⟨u1, rfl, ho1, hb1⟩
  have hs1 : Since w0 w1 := hb1
  obtain ⟨B3, d3, rfl, hld3, hmd3, hdc3⟩ := ho1.ints
  unfold maxLen at hmd3
  have Hdc := Lib.hid hdc3
  have Hs1 := Lib.hid hs1
  clear hb1 ho1 hdc3 hs0 hs1
  go_wp2
  go_loopw [7, 16] (fun a i wr => ∃ (k : Nat) (q : Int), k ≤ set.length ∧ i = .int .i64 k ∧ a = .int .i64 q ∧ q = (set.take k).foldl (ruStep ds) (-1) ∧ wr = w1) (fun _ i _ => set.length - (intOf i).toNat)
  case atStart => exact ⟨0, -1, Nat.zero_le _, rfl, rfl, rfl, rfl⟩
  case round =>
    obtain ⟨k, q, hk, rfl, rfl, hq, hww⟩ := hrel
    subst hww
    have Hq := Lib.hid hq
    clear hq
    by_cases hlt : k < set.length
    · obtain ⟨x, hx⟩ := getx set k hlt
      obtain ⟨b, off, rfl, hcell⟩ := HS.out k x hx
      have d0 := Hs1.out.cell hcell
      obtain ⟨x0, x1⟩ := Hin.out x (List.mem_of_getElem? hx)
      obtain ⟨y, rfl⟩ := Int.eq_ofNat_of_zero_le x0
      have hyd : y < ds.length := by rw [Hdl.out]; omega
      obtain ⟨d, hd⟩ := getx ds y hyd
      obtain ⟨b5, off5, rfl, d5⟩ := Hdc.out y d hd
      have Hn : Hid ((set.take (k + 1)).foldl (ruStep ds) (-1) = if decide (0 ≤ d) && (decide (q < 0) || decide (d < q)) then d else q) := by
        show _ = _
        rw [take_snoc hx, List.foldl_append, ← Hq.out]
        show ruStep ds q (y : Int) = _
        unfold ruStep
        rw [Int.toNat_natCast, getD_of hd]
      have m3 : IntKind.i64.wrap ((k : Int) + 1) = (k : Int) + 1 := wr64 _ (by omega) (by omega)
      clear hx hcell hd
      by_cases h0 : 0 ≤ d
      · have c0 : decide (d ≥ 0) = true := decide_eq_true h0
        by_cases h1 : q < 0
        · have c1 : decide (q < 0) = true := decide_eq_true h1
          have Hn2 : Hid ((set.take (k + 1)).foldl (ruStep ds) (-1) = d) := by show _ = _; rw [Hn.out, decide_eq_true h0, c1]; rfl
          clear h0 h1
          go_wp2
          go_roundw
          case rel => exact ⟨k + 1, d, by omega, by go_num, rfl, Hn2.out.symm, by first | rfl | trivial⟩
          case measure => simp [intOf]; omega
        · have c1 : decide (q < 0) = false := decide_eq_false h1
          by_cases h2 : d < q
          · have c2 : decide (d < q) = true := decide_eq_true h2
            have Hn2 : Hid ((set.take (k + 1)).foldl (ruStep ds) (-1) = d) := by show _ = _; rw [Hn.out, decide_eq_true h0, c1, c2]; rfl
            clear h0 h1 h2
            go_wp2
            go_roundw
            case rel => exact ⟨k + 1, d, by omega, by go_num, rfl, Hn2.out.symm, by first | rfl | trivial⟩
            case measure => simp [intOf]; omega
          · have c2 : decide (d < q) = false := decide_eq_false h2
            have Hn2 : Hid ((set.take (k + 1)).foldl (ruStep ds) (-1) = q) := by show _ = _; rw [Hn.out, decide_eq_true h0, c1, c2]; rfl
            clear h0 h1 h2
            go_wp2
            go_roundw
            case rel => exact ⟨k + 1, q, by omega, by go_num, rfl, Hn2.out.symm, by first | rfl | trivial⟩
            case measure => simp [intOf]; omega
      · have c0 : decide (d ≥ 0) = false := decide_eq_false h0
        have Hn2 : Hid ((set.take (k + 1)).foldl (ruStep ds) (-1) = q) := by show _ = _; rw [Hn.out, decide_eq_false h0]; rfl
        clear h0
        go_wp2
        go_roundw
        case rel => exact ⟨k + 1, q, by omega, by go_num, rfl, Hn2.out.symm, by first | rfl | trivial⟩
        case measure => simp [intOf]; omega
    · obtain rfl : k = set.length := by omega
      have Hr : Hid (ruFarB n set v = q) := by show _ = _; rw [HR.out, Hq.out, List.take_length]
      go_wp2
      go_ret
      exact ⟨congrArg (fun q => Ending.returned (.int .i64 q)) Hr.out.symm, Since.after Hb0.out Hs1.out⟩
set_option maxRecDepth 100000 in
set_option maxHeartbeats 1600000 in
theorem ssFar_any (ve vi vn : Value) (n : Net) (w : World) (h : NetIn w ve vi vn n) (hn : netOk n = true) :
    Calls Tryz.prog 133 #[.agg #[ve, vi, vn]] w fun e w' => ∃ u, e = .returned u ∧ Own w' w.heap.size u (farsB n) ∧ Below w.heap.size w w' := by
  have hnl := netOk_len hn
  obtain ⟨w0, hw0⟩ : ∃ w0, w0 = (w).alloc (.cells #[ve, vi, vn] 31) := ⟨_, rfl⟩
  have hb0 : Below w.heap.size w w0 := by rw [hw0]; exact ((Below.refl _ _).alloc (by simp) _)
  have H := Lib.hid (h.keep hb0)
  obtain ⟨h1, h2, h3⟩ := h.keep hb0
  obtain ⟨A, c, rfl, hlc, hm, hA⟩ := h1
  obtain ⟨A2, c2, rfl, _, hm2, _⟩ := h2
  obtain ⟨A3, c3, rfl, _, hm3, _⟩ := h3
  unfold maxLen at hm hm2 hm3
  have p00 : ∀ W, Since w0 W → W.cell? ⟨w.heap.size, 0, none⟩ = some (.slice A n.ends.length c) := have_cell (by rw [hw0]; simp)
  have p01 : ∀ W, Since w0 W → W.cell? ⟨w.heap.size, 1, none⟩ = some (.slice A2 n.ids.length c2) := have_cell (by rw [hw0]; simp)
  have p02 : ∀ W, Since w0 W → W.cell? ⟨w.heap.size, 2, none⟩ = some (.slice A3 n.inputs.length c3) := have_cell (by rw [hw0]; simp)
  have Hb0 := Lib.hid hb0
  have Hw0 := Lib.hid hw0
  have HA := Lib.hid hA
  clear hA h
  clear hb0 hw0
  have Hn := Lib.hid hn
  have Hni := Lib.hid (net_inp hn)
  have hi40 : n.inputs.length ≤ 40 := by have := net_inp hn; omega
  obtain ⟨rs, hrs⟩ : ∃ rs, rs = rootsB n := ⟨_, rfl⟩
  have hrl : rs.length ≤ 40 := by
    rw [hrs]
    have := kept_le (inpB n) (upto n.inputs.length)
    rw [upto_len] at this
    rw [roots_inp]
    omega
  have Hrb : Hid (∀ x ∈ rs, 0 ≤ x ∧ x < n.ends.length) := fun x hx => rootsB_mem hn (by rw [← hrs]; exact hx)
  have Hrs := Lib.hid hrs
  have hs0 : Since w0 w0 := since_refl _
  clear hn hrs
  go_enter Tryz.func133, Tryz.ntmps133
  go_upto_region 1 with (fail)
  rw [← Hw0.out]
  go_wp2
  go_loopw [3, 12] (fun u i wr => ∃ k : Nat, k ≤ n.inputs.length ∧ i = .int .i64 k ∧ Own wr w0.heap.size u (keptB (inpB n) (upto k)) ∧ Since w0 wr) (fun _ i _ => n.inputs.length - (intOf i).toNat)
  case atStart => exact ⟨0, Nat.zero_le _, rfl, by simpa [keptB, upto] using own_nil _ w0.heap.size, hs0⟩
  case round =>
    obtain ⟨k, hk, rfl, ho, hsr⟩ := hrel
    have Ho := Lib.hid ho
    clear ho hs0
    by_cases hlt : k < n.inputs.length
    · obtain ⟨bi, oi, ci, hvi, hil, hci⟩ := inp_at H.out Hn.out (v := k) (by rw [← Hni.out]; exact hlt)
      cases hvi
      have d0 := hsr.cell hci
      obtain ⟨x, hx⟩ : ∃ x, x = n.inputs.getD k 0 := ⟨_, rfl⟩
      rw [← hx] at d0
      have m3 : IntKind.i64.wrap ((k : Int) + 1) = (k : Int) + 1 := wr64 _ (by omega) (by omega)
      have Hlen : Hid ((keptB (inpB n) (upto k)).length + 1 ≤ 17592186044416) := by
        have := kept_le (inpB n) (upto k)
        rw [upto_len] at this
        show _ ≤ _
        omega
      have Hx := Lib.hid hx
      clear hci hx
      cases hp : (x == 1)
      · have Hp : Hid (inpB n (k : Int) = true) := by show (n.inputs.getD ((k : Int)).toNat 0 != 1) = true; rw [Int.toNat_natCast, ← Hx.out]; simp [bne, hp]
        go_wp2
        go_roundw
        case rel => exact ⟨k + 1, by omega, by go_num, by rw [kept_snoc', Hp.out]; simpa using Ho.out, hsr⟩
        case measure => simp [intOf]; omega
      · have Hp : Hid (inpB n (k : Int) = false) := by show (n.inputs.getD ((k : Int)).toNat 0 != 1) = false; rw [Int.toNat_natCast, ← Hx.out]; simp [bne, hp]
        go_wp2_with (at_builtin; refine app_int_s rfl _ _ rfl rfl (Ho.out.since (since_alloc _ (since_refl _))) wr.heap.size k rfl (by simp [go_sem]) Hlen.out (since_alloc _ hsr) ?_; intro g cc w2 ho2 hs3)
        have Ho3 := Lib.hid ho2
        have Hs3 := Lib.hid hs3
        clear ho2 hs3 hsr
        go_wp2
        go_roundw
        case rel => exact ⟨k + 1, by omega, by go_num, by rw [kept_snoc', Hp.out]; exact Ho3.out, Hs3.out⟩
        case measure => simp [intOf]; omega
    · have HoR : Hid (Own wr w0.heap.size u3 rs) := by show Own _ _ _ _; rw [Hrs.out, roots_inp]; have := Ho.out; rwa [show k = n.inputs.length by omega] at this
      obtain rfl : k = n.inputs.length := by omega
      obtain ⟨w1, hw1⟩ : ∃ w1, w1 = wr := ⟨_, rfl⟩
      subst hw1
      have HI := Lib.hid (show ∀ X, Since w1 X → IntS X u3 rs from fun X hX => HoR.out.ints.keep hX.below)
      have Hs1 := Lib.hid hsr
      go_wp2
      clear hsr
      go_loopw [4, 27] (fun u i wr => ∃ k : Nat, k ≤ n.ends.length ∧ i = .int .i64 k ∧ Own wr w1.heap.size u ((farsB n).take k) ∧ Since w1 wr) (fun _ i _ => n.ends.length - (intOf i).toNat)
      case atStart => exact ⟨0, Nat.zero_le _, rfl, by simpa using own_nil _ w1.heap.size, since_refl _⟩
      case round =>
        obtain ⟨k, hk, rfl, ho, hsr⟩ := hrel
        have Ho := Lib.hid ho
        clear ho
        by_cases hlt2 : k < n.ends.length
        · have h01 := Hs1.out.after hsr
          have hcall := ruFar_any _ _ _ u3 n rs k wr (H.out.keep h01.below) Hn.out (HI.out wr hsr) hlt2 Hrb.out (by omega)
          obtain ⟨d, hd⟩ : ∃ d, d = ruFarB n rs k := ⟨_, rfl⟩
          rw [← hd] at hcall
          have Hcall := Lib.hid hcall
          obtain ⟨y, hy⟩ : ∃ y, y = if d < 0 then (n.ends.length : Int) else d := ⟨_, rfl⟩
          have Hy := Lib.hid hy
          have Hnx : Hid ((farsB n).take (k + 1) = (farsB n).take k ++ [y]) := by
            show _ = _
            have : (farsB n)[k]? = some y := by
              unfold farsB
              rw [List.getElem?_map, List.getElem?_range hlt2]
              show some (farB n k) = some y
              unfold farB
              rw [← Hrs.out, ← hd, hy]
            exact take_snoc this
          have m3 : IntKind.i64.wrap ((k : Int) + 1) = (k : Int) + 1 := wr64 _ (by omega) (by omega)
          have Hlen : Hid (((farsB n).take k).length + 1 ≤ 17592186044416) := by show _ ≤ _; rw [List.length_take]; omega
          have p0 := p00 wr h01
          have p1 := p01 wr h01
          have p2 := p02 wr h01
          have H01 := Lib.hid h01
          clear hcall hd hy h01
          go_wp2_with fail
          refine Hcall.out.mono ?_
          rintro e w3 ⟨rfl, hb3⟩
          have hs3 : Since w1 w3 := hsr.trans hb3
          have p0' := p00 w3 (Hs1.out.after hs3)
          have Ho3 := Lib.hid (Ho.out.keep hb3)
          clear hb3 hsr p0 p1 p2
          by_cases h0 : d < 0
          · have c0 : decide (d < 0) = true := decide_eq_true h0
            have HY : Hid (y = (n.ends.length : Int)) := by show _ = _; rw [Hy.out, if_pos h0]
            rw [HY.out] at Hnx
            clear h0
            go_wp2_with (at_builtin; refine app_int_s rfl _ _ rfl rfl (Ho3.out.since (since_alloc _ (since_refl _))) w3.heap.size (n.ends.length : Int) rfl (by simp [go_sem]) Hlen.out (since_alloc _ hs3) ?_; intro g cc w2 ho2 hs4)
            have Ho4 := Lib.hid ho2
            have Hs4 := Lib.hid hs4
            clear ho2 hs4 hs3
            go_wp2
            go_roundw
            case rel => exact ⟨k + 1, by omega, by go_num, by rw [Hnx.out]; have := Ho4.out; first | exact this | (rw [List.length_take] at this; exact this) | simpa using this, Hs4.out⟩
            case measure => simp [intOf]; omega
          · have c0 : decide (d < 0) = false := decide_eq_false h0
            have HY : Hid (y = d) := by show _ = _; rw [Hy.out, if_neg h0]
            rw [HY.out] at Hnx
            clear h0 p0'
            go_wp2_with (at_builtin; refine app_int_s rfl _ _ rfl rfl (Ho3.out.since (since_alloc _ (since_refl _))) w3.heap.size d rfl (by simp [go_sem]) Hlen.out (since_alloc _ hs3) ?_; intro g cc w2 ho2 hs4)
            have Ho4 := Lib.hid ho2
            have Hs4 := Lib.hid hs4
            clear ho2 hs4 hs3
            go_wp2
            go_roundw
            case rel => exact ⟨k + 1, by omega, by go_num, by rw [Hnx.out]; have := Ho4.out; first | exact this | (rw [List.length_take] at this; exact this) | simpa using this, Hs4.out⟩
            case measure => simp [intOf]; omega
        · have Hr : Hid ((farsB n).take k = farsB n) := List.take_of_length_le (by simp [farsB]; omega)
          obtain rfl : k = n.ends.length := by omega
          go_wp2
          go_ret
          exact ⟨_, rfl, by have := Ho.out; rw [Hr.out] at this; exact this.mono (Nat.le_trans Hb0.out.size Hs1.out.below.size), Since.after Hb0.out (Hs1.out.after hsr)⟩
end Go.Proofs.YtlfehdikgbgloaaGreat
namespace Go.Proofs.YtlfehdikgbgloaaGreat
open Go.RowKit
theorem ints_one1 {w : World} {b : Nat} {x : Int} (h : w.cell? ⟨b, 0, none⟩ = some (.int .i64 x)) : IntS w (.slice (some ⟨b, 0, none⟩) 1 1) [x] :=
  ⟨some ⟨b, 0, none⟩, 1, rfl, Nat.le_refl _, by unfold maxLen; omega, fun k y hk => by
    match k, hk with
    | 0, hk => simp at hk; subst hk; exact ⟨b, 0, rfl, h⟩
    | k + 1, hk => simp at hk⟩
theorem kept_take {p : Int → Bool} {xs : List Int} {k : Nat} {x : Int} (hx : xs[k]? = some x) : keptB p (xs.take (k + 1)) = keptB p (xs.take k) ++ (if p x = true then [] else [x]) := by
  rw [take_snoc hx]
  unfold keptB
  rw [List.filter_append]
  cases h : p x <;> simp [h]
theorem kept_same {p : Int → Bool} {xs : List Int} (h : ∀ x ∈ xs, p x = false) : keptB p xs = xs := by
  unfold keptB
  rw [List.filter_eq_self]
  intro x hx
  simp [h x hx]
theorem upto_in {n : Nat} {x : Int} (h : x ∈ upto n) : 0 ≤ x ∧ x < (n : Int) := by
  unfold upto at h
  obtain ⟨i, hi, rfl⟩ := List.mem_map.1 h
  have := List.mem_range.1 hi
  simp only [Int.ofNat_eq_natCast]
  omega
theorem col_len (n : Net) : ∀ (vs out : List Int), (vs.foldl (colStep n) out).length = out.length
  | [], _ => rfl
  | v :: vs, out => by rw [List.foldl_cons, col_len n vs]; simp [colStep]
theorem row_net {n : Net} (hn : netOk n = true) {v : Nat} (hv : v < n.ends.length) : n.ends[v]? = some (rowOf n v) ∧ (rowOf n v).length ≤ 6 ∧ ∀ e ∈ rowOf n v, (0 ≤ e.1 ∧ e.1 < n.ends.length) ∧ 0 ≤ e.2 ∧ e.2 ≤ 5 := by
  obtain ⟨es, hes⟩ := getx n.ends v hv
  have hr := netOk_row hn hes
  have e : rowOf n v = es := getD_of hes
  rw [e]
  exact ⟨hes, hr.1, fun x hx => row_bd hn hes hx⟩
set_option maxRecDepth 100000 in
set_option maxHeartbeats 1600000 in
theorem greedyColouring_any (ve vi vn vo : Value) (n : Net) (w : World) (h : NetIn w ve vi vn n) (hn : netOk n = true) (ho : IntS w vo (upto n.ends.length)) :
    Calls Tryz.prog 78 #[.agg #[ve, vi, vn], vo] w fun e w' => ∃ u, e = .returned u ∧ Own w' w.heap.size u (colB n) ∧ Below w.heap.size w w' := by
  have hnl := netOk_len hn
  obtain ⟨w0, hw0⟩ : ∃ w0, w0 = (w).alloc (.cells #[ve, vi, vn] 31) := ⟨_, rfl⟩
  have hb0 : Below w.heap.size w w0 := by rw [hw0]; exact ((Below.refl _ _).alloc (by simp) _)
  have H := Lib.hid (h.keep hb0)
  obtain ⟨h1, h2, h3⟩ := h.keep hb0
  obtain ⟨A, c, rfl, hlc, hm, hA⟩ := h1
  obtain ⟨A2, c2, rfl, _, hm2, _⟩ := h2
  obtain ⟨A3, c3, rfl, _, hm3, _⟩ := h3
  unfold maxLen at hm hm2 hm3
  have p00 : ∀ W, Since w0 W → W.cell? ⟨w.heap.size, 0, none⟩ = some (.slice A n.ends.length c) := have_cell (by rw [hw0]; simp)
  have p01 : ∀ W, Since w0 W → W.cell? ⟨w.heap.size, 1, none⟩ = some (.slice A2 n.ids.length c2) := have_cell (by rw [hw0]; simp)
  have p02 : ∀ W, Since w0 W → W.cell? ⟨w.heap.size, 2, none⟩ = some (.slice A3 n.inputs.length c3) := have_cell (by rw [hw0]; simp)
  have Hb0 := Lib.hid hb0
  have Hw0 := Lib.hid hw0
  have HA := Lib.hid hA
  clear hA h
  clear hb0 hw0
  obtain ⟨os, hos⟩ : ∃ os, os = upto n.ends.length := ⟨_, rfl⟩
  have hol : os.length = n.ends.length := by rw [hos, upto_len]
  have Hoi : Hid (∀ x ∈ os, 0 ≤ x ∧ x < n.ends.length) := fun x hx => upto_in (by rw [← hos]; exact hx)
  rw [← hos] at ho
  have HC : Hid (colB n = os.foldl (colStep n) (List.replicate n.ends.length (-1))) := by show _ = _; unfold colB; rw [← hos]
  obtain ⟨AP, cP, rfl, hlP, hmP, hAP⟩ := ho
  unfold maxLen at hmP
  have HS := Lib.hid (show ∀ k x, os[k]? = some x → ∃ b off, AP = some ⟨b, off, none⟩ ∧ w0.cell? ⟨b, off + k, none⟩ = some (.int .i64 x) from fun k x hx => by obtain ⟨b, off, e, hc⟩ := hAP k x hx; exact ⟨b, off, e, bc Hb0.out hc⟩)
  have Hn := Lib.hid hn
  have Hol := Lib.hid hol
  have hos40 : os.length ≤ 40 := by omega
  have hs0 : Since w0 w0 := since_refl _
  clear hAP hos hn hol
  go_enter Tryz.func78, Tryz.ntmps78
  go_upto_region 1 with (fail)
  rw [← Hw0.out]
  go_wp2_with fail
  refine (noMatching_any _ _ _ n w0 H.out hnl.1 (by omega)).mono ?_
  rintro e w1 ⟨u1, rfl, ho1, hb1⟩
  have hs1 : Since w0 w1 := hb1
  rcases ho1.cases with ⟨-, e1⟩ | ⟨g, c1, rfl, hg1, hg2⟩
  · have := congrArg List.length e1; rw [List.length_replicate, List.length_nil] at this; omega
  rw [List.length_replicate] at ho1 ⊢
  have Ho1 := Lib.hid ho1
  clear ho1 hb1 hs0
  go_wp2
  go_loopw [12] (fun i wr => ∃ (k : Nat) (out : List Int), k ≤ os.length ∧ i = .int .i64 k ∧ out = (os.take k).foldl (colStep n) (List.replicate n.ends.length (-1)) ∧ Own wr w0.heap.size (.slice (some ⟨g, 0, none⟩) n.ends.length c1) out ∧ Since w0 wr) (fun i _ => os.length - (intOf i).toNat)
  case atStart => exact ⟨0, _, Nat.zero_le _, rfl, rfl, Ho1.out, hs1⟩
  case round =>
    obtain ⟨k, out, hk, rfl, hout, ho, hsr⟩ := hrel
    have Ho := Lib.hid ho
    have Hout := Lib.hid hout
    have Hol2 := Lib.hid ho.len
    clear ho hout hs1
    by_cases hlt : k < os.length
    · obtain ⟨x, hx⟩ := getx os k hlt
      obtain ⟨b, off, rfl, hcell⟩ := HS.out k x hx
      have d0 := hsr.cell hcell
      obtain ⟨x0, x1⟩ := Hoi.out x (List.mem_of_getElem? hx)
      obtain ⟨q, rfl⟩ := Int.eq_ofNat_of_zero_le x0
      have hq : q < n.ends.length := by omega
      obtain ⟨r1, r2, r3⟩ := row_net Hn.out hq
      obtain ⟨ds, hds⟩ : ∃ ds, ds = nearB out (rowOf n q) := ⟨_, rfl⟩
      have hcall := near_any _ _ _ _ n out q (rowOf n q) wr (H.out.keep hsr.below) Ho.out.ints r1 (by omega) (fun e he => by rw [Hol2.out]; exact (r3 e he).1)
      rw [← hds] at hcall
      have Hcall := Lib.hid hcall
      obtain ⟨y, hy⟩ : ∃ y, y = leastB ds := ⟨_, rfl⟩
      have Hy := Lib.hid hy
      have Hn1 : Hid (out.set q y = (os.take (k + 1)).foldl (colStep n) (List.replicate n.ends.length (-1))) := by
        show _ = _
        rw [take_snoc hx, List.foldl_append, ← Hout.out]
        show _ = colStep n out (q : Int)
        unfold colStep
        rw [Int.toNat_natCast, ← hds, hy]
      have m3 : IntKind.i64.wrap ((k : Int) + 1) = (k : Int) + 1 := wr64 _ (by omega) (by omega)
      clear hx hcell r1 r2 r3 hds hcall hy
      go_wp2_with fail
      refine Hcall.out.mono ?_
      rintro e w3 ⟨u3, rfl, ho3, hb3⟩
      have hs3 : Since w0 w3 := hsr.trans hb3
      have ho4 := Ho.out.keep hb3
      have HI := Lib.hid ho3.ints
      obtain ⟨B3, d3, rfl, hld3, hmd3, _⟩ := id ho3.ints
      unfold maxLen at hmd3
      obtain ⟨zz, hzz⟩ := getx out q (by rw [Hol2.out]; exact hq)
      have cz := ho4.cell hzz
      have fz := ho4.free q
      have Hz1 := Lib.hid (ho4.set (k := q) y)
      have Hs5 := Lib.hid (show Since w0 (w3.setCell ⟨g, q, none⟩ (.int .i64 y)) from Below.setCell hs3 hg1 _)
      have Hlf := Lib.hid (leastFree_any _ ds w3 HI.out)
      rw [← Hy.out] at Hlf
      clear ho3 hb3 ho4 hzz hsr hs3 d0
      go_wp2_with fail
      refine Hlf.out.mono ?_
      rintro e w4 ⟨rfl, rfl⟩
      go_wp2
      go_roundw
      case rel => exact ⟨k + 1, out.set q y, by omega, by go_num, Hn1.out, Hz1.out, Hs5.out⟩
      case measure => simp [intOf]; omega
    · have Hr : Hid (colB n = out) := by show _ = _; rw [HC.out, Hout.out, show k = os.length by omega, List.take_length]
      obtain rfl : k = os.length := by omega
      go_wp2
      go_ret
      exact ⟨_, rfl, by rw [Hr.out]; exact Ho.out.mono Hb0.out.size, Since.after Hb0.out hsr⟩
-- the reference
set_option maxHeartbeats 1600000 in
theorem ssPlain_any (ve vi vn : Value) (n : Net) (w : World) (h : NetIn w ve vi vn n) (hle : n.ends.length ≤ 1000000) :
    Calls Tryz.prog 135 #[.agg #[ve, vi, vn]] w fun e w' => ∃ u, e = .returned u ∧ Own w' w.heap.size u (upto n.ends.length) ∧ Below w.heap.size w w' := by
  obtain ⟨w0, hw0⟩ : ∃ w0, w0 = (w).alloc (.cells #[ve, vi, vn] 31) := ⟨_, rfl⟩
  have hb0 : Below w.heap.size w w0 := by rw [hw0]; exact ((Below.refl _ _).alloc (by simp) _)
  have H := Lib.hid (h.keep hb0)
  obtain ⟨h1, h2, h3⟩ := h.keep hb0
  obtain ⟨A, c, rfl, hlc, hm, hA⟩ := h1
  obtain ⟨A2, c2, rfl, _, hm2, _⟩ := h2
  obtain ⟨A3, c3, rfl, _, hm3, _⟩ := h3
  unfold maxLen at hm hm2 hm3
  have p00 : ∀ W, Since w0 W → W.cell? ⟨w.heap.size, 0, none⟩ = some (.slice A n.ends.length c) := have_cell (by rw [hw0]; simp)
  have p01 : ∀ W, Since w0 W → W.cell? ⟨w.heap.size, 1, none⟩ = some (.slice A2 n.ids.length c2) := have_cell (by rw [hw0]; simp)
  have p02 : ∀ W, Since w0 W → W.cell? ⟨w.heap.size, 2, none⟩ = some (.slice A3 n.inputs.length c3) := have_cell (by rw [hw0]; simp)
  have Hb0 := Lib.hid hb0
  have Hw0 := Lib.hid hw0
  have HA := Lib.hid hA
  clear hA h
  clear hb0 hw0
  have hs0 : Since w0 w0 := since_refl _
  go_enter Tryz.func135, Tryz.ntmps135
  go_upto_region 1 with (fail)
  rw [← Hw0.out]
  go_wp2
  go_loopw [3, 8] (fun u i wr => ∃ k : Nat, k ≤ n.ends.length ∧ i = .int .i64 k ∧ Own wr w0.heap.size u (upto k) ∧ Since w0 wr) (fun _ i _ => n.ends.length - (intOf i).toNat)
  case atStart => exact ⟨0, Nat.zero_le _, rfl, by simpa [upto] using own_nil _ w0.heap.size, hs0⟩
  case round =>
    obtain ⟨k, hk, rfl, ho, hsr⟩ := hrel
    have Ho := Lib.hid ho
    clear ho hs0
    by_cases hlt : k < n.ends.length
    · have m3 : IntKind.i64.wrap ((k : Int) + 1) = (k : Int) + 1 := wr64 _ (by omega) (by omega)
      have Hlen : Hid ((upto k).length + 1 ≤ 17592186044416) := by show _ ≤ _; rw [upto_len]; omega
      have Hn : Hid (upto (k + 1) = upto k ++ [(k : Int)]) := by show _ = _; simp [upto, List.range_succ]
      have HL2 := Lib.hid (upto_len k)
      go_wp2_with (at_builtin; refine app_int_s rfl _ _ rfl rfl (Ho.out.since (since_alloc _ (since_refl _))) wr.heap.size k rfl (by simp [go_sem]) Hlen.out (since_alloc _ hsr) ?_; intro g cc w2 ho2 hs3)
      have Ho3 := Lib.hid ho2
      have Hs3 := Lib.hid hs3
      clear ho2 hs3 hsr
      go_wp2
      go_roundw
      case rel => exact ⟨k + 1, by omega, by go_num, by rw [Hn.out]; have := Ho3.out; first | exact this | (rw [HL2.out] at this; exact this), Hs3.out⟩
      case measure => simp [intOf]; omega
    · obtain rfl : k = n.ends.length := by omega
      go_wp2
      go_ret
      exact ⟨_, rfl, Ho.out.mono Hb0.out.size, Since.after Hb0.out hsr⟩
set_option maxHeartbeats 1600000 in
theorem deLess_any (v1 v2 : Value) (xs ys : List Int) (w : World) (h1 : IntS w v1 xs) (h2 : IntS w v2 ys) (hle : xs.length ≤ 1000000) :
    Calls Tryz.prog 214 #[v1, v2] w fun e w' => ∃ u, e = .returned u ∧ Own w' w.heap.size u (keptB (hasB ys) xs) ∧ Below w.heap.size w w' := by
  have H2 := Lib.hid h2
  obtain ⟨A1, c1, rfl, hl1, hm1, hA1⟩ := h1
  unfold maxLen at hm1
  have HA := Lib.hid hA1
  obtain ⟨A2, c2, rfl, hl2, hm2, _⟩ := h2
  have hs0 : Since w w := since_refl _
  clear hA1
  go_enter Tryz.func214, Tryz.ntmps214
  go_wp2
  go_loopw [5, 10] (fun u i wr => ∃ k : Nat, k ≤ xs.length ∧ i = .int .i64 k ∧ Own wr w.heap.size u (keptB (hasB ys) (xs.take k)) ∧ Since w wr) (fun _ i _ => xs.length - (intOf i).toNat)
  case atStart => exact ⟨0, Nat.zero_le _, rfl, by simpa [keptB] using own_nil _ w.heap.size, hs0⟩
  case round =>
    obtain ⟨k, hk, rfl, ho, hsr⟩ := hrel
    have Ho := Lib.hid ho
    clear ho hs0
    by_cases hlt : k < xs.length
    · obtain ⟨x, hx⟩ := getx xs k hlt
      obtain ⟨b, off, rfl, hcell⟩ := HA.out k x hx
      have d0 := hsr.cell hcell
      obtain ⟨z, hz⟩ : ∃ z, z = hasB ys x := ⟨_, rfl⟩
      have Hz := Lib.hid hz
      have Hk := Lib.hid (kept_take (p := hasB ys) hx)
      have m3 : IntKind.i64.wrap ((k : Int) + 1) = (k : Int) + 1 := wr64 _ (by omega) (by omega)
      have Hlen : Hid ((keptB (hasB ys) (xs.take k)).length + 1 ≤ 17592186044416) := by
        have := kept_le (hasB ys) (xs.take k)
        rw [List.length_take] at this
        show _ ≤ _
        omega
      clear hz hx hcell
      go_wp2_with fail
      refine (l1Has_any _ ys x wr (H2.out.keep hsr.below)).mono ?_
      rw [← Hz.out]
      rintro e w2 ⟨rfl, rfl⟩
      cases z
      · have Hn : Hid (keptB (hasB ys) (xs.take (k + 1)) = keptB (hasB ys) (xs.take k) ++ [x]) := by show _ = _; rw [Hk.out, ← Hz.out]; rfl
        go_wp2_with (at_builtin; refine app_int_s rfl _ _ rfl rfl (Ho.out.since (since_alloc _ (since_refl _))) wr.heap.size x rfl (by simp [go_sem]) Hlen.out (since_alloc _ hsr) ?_; intro g cc w2 ho2 hs3)
        have Ho3 := Lib.hid ho2
        have Hs3 := Lib.hid hs3
        clear ho2 hs3 hsr d0
        go_wp2
        go_roundw
        case rel => exact ⟨k + 1, by omega, by go_num, by rw [Hn.out]; exact Ho3.out, Hs3.out⟩
        case measure => simp [intOf]; omega
      · have Hn : Hid (keptB (hasB ys) (xs.take (k + 1)) = keptB (hasB ys) (xs.take k)) := by show _ = _; rw [Hk.out, ← Hz.out]; simp
        go_wp2
        go_roundw
        case rel => exact ⟨k + 1, by omega, by go_num, by rw [Hn.out]; exact Ho.out, hsr⟩
        case measure => simp [intOf]; omega
    · obtain rfl : k = xs.length := by omega
      go_wp2
      go_ret
      exact ⟨_, rfl, by have := Ho.out; rwa [List.take_length] at this, hsr⟩
set_option maxHeartbeats 1600000 in
theorem deSeen_any (ve vi vn : Value) (n : Net) (v : Nat) (w : World) (h : NetIn w ve vi vn n) (hn : netOk n = true) (hp : plainB n = true) (hv : v < n.ends.length) :
    Calls Tryz.prog 185 #[.agg #[ve, vi, vn], .int .i64 v] w fun e w' => ∃ u, e = .returned u ∧ Own w' w.heap.size u ((rowOf n v).map (·.1)) ∧ Below w.heap.size w w' := by
  obtain ⟨w0, hw0⟩ : ∃ w0, w0 = (w).alloc (.cells #[ve, vi, vn] 31) := ⟨_, rfl⟩
  have hb0 : Below w.heap.size w w0 := by rw [hw0]; exact ((Below.refl _ _).alloc (by simp) _)
  have H := Lib.hid (h.keep hb0)
  obtain ⟨h1, h2, h3⟩ := h.keep hb0
  obtain ⟨A, c, rfl, hlc, hm, hA⟩ := h1
  obtain ⟨A2, c2, rfl, _, hm2, _⟩ := h2
  obtain ⟨A3, c3, rfl, _, hm3, _⟩ := h3
  unfold maxLen at hm hm2 hm3
  have p00 : ∀ W, Since w0 W → W.cell? ⟨w.heap.size, 0, none⟩ = some (.slice A n.ends.length c) := have_cell (by rw [hw0]; simp)
  have p01 : ∀ W, Since w0 W → W.cell? ⟨w.heap.size, 1, none⟩ = some (.slice A2 n.ids.length c2) := have_cell (by rw [hw0]; simp)
  have p02 : ∀ W, Since w0 W → W.cell? ⟨w.heap.size, 2, none⟩ = some (.slice A3 n.inputs.length c3) := have_cell (by rw [hw0]; simp)
  have Hb0 := Lib.hid hb0
  have Hw0 := Lib.hid hw0
  have HA := Lib.hid hA
  clear hA h
  clear hb0 hw0
  obtain ⟨r1, r2, r3⟩ := row_net hn hv
  obtain ⟨ms, hms⟩ : ∃ ms, ms = (rowOf n v).map (·.1) := ⟨_, rfl⟩
  have hcall := neNear_any _ _ _ n v (rowOf n v) w0 H.out r1 (by omega)
  rw [← hms] at hcall ⊢
  have Hcall := Lib.hid hcall
  have hml : ms.length ≤ 6 := by rw [hms]; simpa using r2
  have Hno : Hid (∀ x ∈ ms, hasB [(v : Int)] x = false) := fun x hx => by
    have := plain_row hp hv x (by unfold bsee; rw [Int.toNat_natCast]; rw [hms] at hx; exact hx)
    unfold hasB
    simpa using fun e => this e
  have hs0 : Since w0 w0 := since_refl _
  clear r1 r2 r3 hms hcall hn hp
  go_enter Tryz.func185, Tryz.ntmps185
  go_upto_region 1 with (fail)
  rw [← Hw0.out]
  go_wp2_with fail
  refine Hcall.out.mono ?_
  rintro e w1 ⟨u1, rfl, ho1, hb1⟩
  have hs1 : Since w0 w1 := hb1
  obtain ⟨w2, hw2⟩ : ∃ w2, w2 = w1.alloc (.cells #[.int .i64 (v : Int)] 3) := ⟨_, rfl⟩
  have hs12 : Since w1 w2 := by rw [hw2]; exact since_alloc _ (since_refl _)
  have HI2 : Hid (IntS w2 (.slice (some ⟨w1.heap.size, 0, none⟩) 1 1) [(v : Int)]) := ints_one1 (by rw [hw2]; simp)
  have Hm := Lib.hid (ho1.ints.keep hs12.below)
  have Hc := Lib.hid (deLess_any _ _ ms [(v : Int)] w2 Hm.out HI2.out (by omega))
  rw [kept_same Hno.out, hw2] at Hc
  have Hs2 := Lib.hid (hs1.after hs12)
  have Hw2 := Lib.hid hw2
  obtain ⟨B3, d3, rfl, hld3, hmd3, _⟩ := id ho1.ints
  clear ho1 hb1 hs0 hs1 hs12 hw2
  go_wp2_with fail
  refine Hc.out.mono ?_
  rw [← Hw2.out]
  rintro e w3 ⟨u3, rfl, ho3, hb3⟩
  have Ho3 := Lib.hid (ho3.mono (Since.below Hs2.out).size)
  have Hs3 := Lib.hid (Hs2.out.trans hb3)
  clear ho3 hb3
  go_wp2
  go_ret
  exact ⟨_, rfl, Ho3.out.mono Hb0.out.size, Since.after Hb0.out Hs3.out⟩
set_option maxRecDepth 100000 in
set_option maxHeartbeats 1600000 in
theorem deColour_any (ve vi vn vo : Value) (n : Net) (w : World) (h : NetIn w ve vi vn n) (hn : netOk n = true) (hp : plainB n = true) (ho : IntS w vo (upto n.ends.length)) :
    Calls Tryz.prog 134 #[.agg #[ve, vi, vn], vo] w fun e w' => ∃ u, e = .returned u ∧ Own w' w.heap.size u (colB n) ∧ Below w.heap.size w w' := by
  have hnl := netOk_len hn
  obtain ⟨w0, hw0⟩ : ∃ w0, w0 = (w).alloc (.cells #[ve, vi, vn] 31) := ⟨_, rfl⟩
  have hb0 : Below w.heap.size w w0 := by rw [hw0]; exact ((Below.refl _ _).alloc (by simp) _)
  have H := Lib.hid (h.keep hb0)
  obtain ⟨h1, h2, h3⟩ := h.keep hb0
  obtain ⟨A, c, rfl, hlc, hm, hA⟩ := h1
  obtain ⟨A2, c2, rfl, _, hm2, _⟩ := h2
  obtain ⟨A3, c3, rfl, _, hm3, _⟩ := h3
  unfold maxLen at hm hm2 hm3
  have p00 : ∀ W, Since w0 W → W.cell? ⟨w.heap.size, 0, none⟩ = some (.slice A n.ends.length c) := have_cell (by rw [hw0]; simp)
  have p01 : ∀ W, Since w0 W → W.cell? ⟨w.heap.size, 1, none⟩ = some (.slice A2 n.ids.length c2) := have_cell (by rw [hw0]; simp)
  have p02 : ∀ W, Since w0 W → W.cell? ⟨w.heap.size, 2, none⟩ = some (.slice A3 n.inputs.length c3) := have_cell (by rw [hw0]; simp)
  have Hb0 := Lib.hid hb0
  have Hw0 := Lib.hid hw0
  have HA := Lib.hid hA
  clear hA h
  clear hb0 hw0
  obtain ⟨os, hos⟩ : ∃ os, os = upto n.ends.length := ⟨_, rfl⟩
  have hol : os.length = n.ends.length := by rw [hos, upto_len]
  have Hoi : Hid (∀ x ∈ os, 0 ≤ x ∧ x < n.ends.length) := fun x hx => upto_in (by rw [← hos]; exact hx)
  rw [← hos] at ho
  have HC : Hid (colB n = os.foldl (colStep n) (List.replicate n.ends.length (-1))) := by show _ = _; unfold colB; rw [← hos]
  obtain ⟨AP, cP, rfl, hlP, hmP, hAP⟩ := ho
  unfold maxLen at hmP
  have HS := Lib.hid (show ∀ k x, os[k]? = some x → ∃ b off, AP = some ⟨b, off, none⟩ ∧ w0.cell? ⟨b, off + k, none⟩ = some (.int .i64 x) from fun k x hx => by obtain ⟨b, off, e, hc⟩ := hAP k x hx; exact ⟨b, off, e, bc Hb0.out hc⟩)
  have Hn := Lib.hid hn
  have Hp := Lib.hid hp
  have Hol := Lib.hid hol
  have hos40 : os.length ≤ 40 := by omega
  have hs0 : Since w0 w0 := since_refl _
  clear hAP hos hn hp hol
  go_enter Tryz.func134, Tryz.ntmps134
  go_upto_region 1 with (fail)
  rw [← Hw0.out]
  go_wp2_with (at_make; refine mk_ints _ rfl _ _ rfl _ _ n.ends.length rfl rfl rfl rfl (by omega) ?_; intro w1 ho1 hb1 hz1)
  obtain ⟨g, hg⟩ : ∃ g, g = w0.heap.size := ⟨_, rfl⟩
  rw [← hg] at ho1 hz1 ⊢
  have Hg := Lib.hid hg
  clear hg hz1
  go_wp2
  go_loopw [15] (fun i wr => ∃ k : Nat, k ≤ n.ends.length ∧ i = .int .i64 k ∧ Own wr w0.heap.size (.slice (some ⟨g, 0, none⟩) n.ends.length n.ends.length) (List.replicate k (-1) ++ List.replicate (n.ends.length - k) 0) ∧ Since w0 wr) (fun i _ => n.ends.length - (intOf i).toNat)
  case atStart => exact ⟨0, Nat.zero_le _, rfl, by have := ho1; simpa [Hg.out] using this, hb1⟩
  case round =>
    obtain ⟨k, hk, rfl, ho, hs⟩ := hrel
    have Ho := Lib.hid ho
    have Hs := Lib.hid hs
    clear ho1 hb1 ho hs hs0
    by_cases hlt : k < n.ends.length
    · obtain ⟨y, hy⟩ := getx (List.replicate k (-1 : Int) ++ List.replicate (n.ends.length - k) 0) k (by simp; omega)
      have cz := Ho.out.cell hy
      have fz := Ho.out.free k
      clear hy
      go_wp2
      go_roundw
      case rel =>
        refine ⟨k + 1, by omega, by go_num, ?_, Below.setCell Hs.out (by show w0.heap.size ≤ g; rw [Hg.out]; exact Nat.le_refl _) _⟩
        have := Ho.out.set (k := k) (-1)
        have e : (List.replicate k (-1 : Int) ++ List.replicate (n.ends.length - k) 0).set k (-1) = List.replicate (k + 1) (-1) ++ List.replicate (n.ends.length - (k + 1)) 0 := by
          rw [List.set_append_right _ _ (by simp), List.length_replicate, Nat.sub_self, show n.ends.length - k = (n.ends.length - (k + 1)) + 1 by omega, List.replicate_succ, List.set_cons_zero, List.replicate_succ', List.append_assoc]
          rfl
        rwa [e] at this
      case measure => simp [intOf]; omega
    · have Ho2 : Hid (Own wr w0.heap.size (.slice (some ⟨g, 0, none⟩) n.ends.length n.ends.length) (List.replicate n.ends.length (-1))) := by
        have := Ho.out
        rwa [show k = n.ends.length by omega, Nat.sub_self, List.replicate_zero, List.append_nil] at this
      obtain rfl : k = n.ends.length := by omega
      have hgw : w0.heap.size ≤ g := by rw [Hg.out]; exact Nat.le_refl _
      have hs1 := Hs.out
      go_wp2
      go_loopw [24] (fun i wr => ∃ (k : Nat) (out : List Int), k ≤ os.length ∧ i = .int .i64 k ∧ out = (os.take k).foldl (colStep n) (List.replicate n.ends.length (-1)) ∧ Own wr w0.heap.size (.slice (some ⟨g, 0, none⟩) n.ends.length n.ends.length) out ∧ Since w0 wr) (fun i _ => os.length - (intOf i).toNat)
      case atStart => exact ⟨0, _, Nat.zero_le _, rfl, rfl, Ho2.out, hs1⟩
      case round =>
        obtain ⟨k, out, hk, rfl, hout, ho, hsr⟩ := hrel
        have Ho := Lib.hid ho
        have Hout := Lib.hid hout
        have Hol2 := Lib.hid ho.len
        clear ho hout hs1
        by_cases hlt2 : k < os.length
        · obtain ⟨x, hx⟩ := getx os k hlt2
          obtain ⟨b, off, rfl, hcell⟩ := HS.out k x hx
          have d0 := hsr.cell hcell
          obtain ⟨x0, x1⟩ := Hoi.out x (List.mem_of_getElem? hx)
          obtain ⟨q, rfl⟩ := Int.eq_ofNat_of_zero_le x0
          have hq : q < n.ends.length := by omega
          obtain ⟨r1, r2, r3⟩ := row_net Hn.out hq
          obtain ⟨ms, hms⟩ : ∃ ms, ms = (rowOf n q).map (·.1) := ⟨_, rfl⟩
          have hcall := deSeen_any _ _ _ n q wr (H.out.keep hsr.below) Hn.out Hp.out hq
          rw [← hms] at hcall
          have Hcall := Lib.hid hcall
          have Hml : Hid (ms.length ≤ 1000000) := by show _ ≤ _; rw [hms, List.length_map]; omega
          have Hmi : Hid (∀ x ∈ ms, 0 ≤ x ∧ x < out.length) := fun x hx => by
            rw [hms] at hx
            obtain ⟨e, he, rfl⟩ := List.mem_map.1 hx
            rw [Hol2.out]; exact (r3 e he).1
          obtain ⟨ds, hds⟩ : ∃ ds, ds = nearB out (rowOf n q) := ⟨_, rfl⟩
          have Hdm : Hid (ms.map (fun x => out.getD x.toNat 0) = ds) := by show _ = _; rw [hms, hds, List.map_map]; rfl
          obtain ⟨y, hy⟩ : ∃ y, y = leastB ds := ⟨_, rfl⟩
          have Hy := Lib.hid hy
          have Hn1 : Hid (out.set q y = (os.take (k + 1)).foldl (colStep n) (List.replicate n.ends.length (-1))) := by
            show _ = _
            rw [take_snoc hx, List.foldl_append, ← Hout.out]
            show _ = colStep n out (q : Int)
            unfold colStep
            rw [Int.toNat_natCast, ← hds, hy]
          have m3 : IntKind.i64.wrap ((k : Int) + 1) = (k : Int) + 1 := wr64 _ (by omega) (by omega)
          clear hx hcell r1 r2 r3 hds hcall hy hms
          go_wp2_with fail
          refine Hcall.out.mono ?_
          rintro e w3 ⟨u3, rfl, ho3, hb3⟩
          have hs3 : Since w0 w3 := hsr.trans hb3
          have Ho4 := Lib.hid (Ho.out.keep hb3)
          have HI := Lib.hid ho3.ints
          have hct := coThrough_any _ _ out ms w3 Ho4.out.ints HI.out Hml.out Hmi.out
          rw [Hdm.out] at hct
          have Hct := Lib.hid hct
          obtain ⟨B3, d3, rfl, hld3, hmd3, _⟩ := id ho3.ints
          unfold maxLen at hmd3
          clear ho3 hb3 hsr d0 hct
          go_wp2_with fail
          refine Hct.out.mono ?_
          rintro e w4 ⟨u4, rfl, ho5, hb5⟩
          have hs4 : Since w0 w4 := hs3.trans hb5
          have ho6 := Ho4.out.keep hb5
          have Hlf := Lib.hid (clLeast_any _ ds w4 ho5.ints)
          rw [← Hy.out] at Hlf
          obtain ⟨B4, d4, rfl, hld4, hmd4, _⟩ := id ho5.ints
          unfold maxLen at hmd4
          obtain ⟨zz, hzz⟩ := getx out q (by rw [Hol2.out]; exact hq)
          have cz := ho6.cell hzz
          have fz := ho6.free q
          have Hz1 := Lib.hid (ho6.set (k := q) y)
          have Hs5 := Lib.hid (show Since w0 (w4.setCell ⟨g, q, none⟩ (.int .i64 y)) from Below.setCell hs4 hgw _)
          clear ho5 hb5 ho6 hzz hs3 hs4
          go_wp2_with fail
          refine Hlf.out.mono ?_
          rintro e w5 ⟨rfl, rfl⟩
          go_wp2
          go_roundw
          case rel => exact ⟨k + 1, out.set q y, by omega, by go_num, Hn1.out, Hz1.out, Hs5.out⟩
          case measure => simp [intOf]; omega
        · have Hr : Hid (colB n = out) := by show _ = _; rw [HC.out, Hout.out, show k = os.length by omega, List.take_length]
          obtain rfl : k = os.length := by omega
          go_wp2
          go_ret
          exact ⟨_, rfl, by rw [Hr.out]; exact Ho.out.mono Hb0.out.size, Since.after Hb0.out hsr⟩
end Go.Proofs.YtlfehdikgbgloaaGreat
namespace Go.Proofs.YtlfehdikgbgloaaGreat
open Go.RowKit
/-- append of no integers -/
theorem app_zero {w : World} {ops : Array Oper} {rest : List Oper} {o : Oper} {a : Act} {Q : Exit → Act → World → Prop} (hgd : o.guard = none) (s x : Operand)
    (ho : o.op = .call { callee := .builtin .append, args := #[s, x], argTypes := #[23, 23] }) {base : Nat} {v : Value} {xs : List Int} (hs : a.eval s = v) (h : Own w base v xs) (A : Option Addr) (c : Nat) (hx : a.eval x = .slice A 0 c)
    (k : wpList Tryz.prog ops Q rest (a.put o.dst v) w) : wpList Tryz.prog ops Q (o :: rest) a w := by
  obtain ⟨i0, hi, hz0, hz1, hz2⟩ := info_parts int_info
  refine wpList_plain hgd fun K hK => ?_
  have hrun : (Builtin.append_ #[23, 23] o.type #[v, .slice A 0 c]).run Tryz.prog w = .ok v w := by
    rcases h.2 with ⟨rfl, hx0⟩ | ⟨g, cap, cur, rfl, _, _, hnc, _⟩
    · cases A <;> simp [Builtin.append_, run_underlying Tryz.underlying23, sizeOf, typeInfo, hi, Builtin.lenOf, Builtin.firstCells, loadCells, loadCellsFrom, Result.andThen]
    · cases A <;> simp [Builtin.append_, run_underlying Tryz.underlying23, sizeOf, typeInfo, hi, Builtin.lenOf, Builtin.firstCells, hnc, storeCells, loadCells, loadCellsFrom, Result.andThen]
  unfold Oper.wp
  simp [execOp, ho, resolve, invoke, builtin, hs, hx, hrun, Result.andThen]
  exact hK _ _ k
theorem eidx_any (p : Int × Int → Bool) (es : List (Int × Int)) : decide (0 ≤ eidx p es) = es.any p := by
  unfold eidx
  cases h : es.any p with
  | false => rw [fi_none h]; rfl
  | true =>
    cases h2 : es.findIdx? p with
    | none =>
      rw [List.findIdx?_eq_none_iff] at h2
      rw [List.any_eq_true] at h
      obtain ⟨x, hx, hp⟩ := h
      rw [h2 x hx] at hp; cases hp
    | some i => simp
theorem containsFuncE_any (v : Value) (xs : List (Int × Int)) (fid : FuncId) (caps : Array Value) (p : Int × Int → Bool) (w : World) (h : EndS w v xs) (henter : ∀ args w, (callFunc fid args).run Tryz.prog w = .ok (.enter fid args) w) (hp : PredE w fid caps p xs) :
    Calls Tryz.prog 194 #[v, .func (.func fid) #[] caps] w fun e w' => e = .returned (.bool (xs.any p)) ∧ Below w.heap.size w w' := by
  have hi := Lib.hid (indexFuncE_any v xs fid caps p w h henter hp)
  have He := Lib.hid (eidx_any p xs)
  obtain ⟨A, c, rfl, hlc, hm, hA⟩ := h
  go_enter Tryz.func194, Tryz.ntmps194
  go_wp2_with fail
  refine hi.out.mono ?_
  rintro e w1 ⟨rfl, hb⟩
  have Hb := Lib.hid hb
  clear hb
  go_wp2
  go_ret
  exact ⟨congrArg (fun b => Ending.returned (.bool b)) He.out, Hb.out⟩
theorem aj1_ent : ∀ args w, (callFunc 195 args).run Tryz.prog w = .ok (.enter 195 args) w := enters_of Tryz.func195 (by kernel_rfl) rfl
theorem aj1_any (x1 x2 x : Int) (bs : Nat) (w : World) (hc : w.cell? ⟨bs, 0, none⟩ = some (.int .i64 x)) :
    Calls Tryz.prog 195 #[.agg #[.int .i64 x1, .int .i64 x2], .pointer (some ⟨bs, 0, none⟩)] w fun e w' => e = .returned (.bool (x1 == x)) ∧ Below w.heap.size w w' := by
  have q := have_cell hc
  have hs0 : Since w w := since_refl _
  clear hc
  go_enter Tryz.func195, Tryz.ntmps195
  have hs1 : Since w (w.alloc (.cells #[.int .i64 x1, .int .i64 x2] 96)) := since_alloc _ hs0
  go_wp2
  go_ret
  exact ⟨rfl, hs1⟩
theorem pt1_ent : ∀ args w, (callFunc 148 args).run Tryz.prog w = .ok (.enter 148 args) w := enters_of Tryz.func148 (by kernel_rfl) rfl
theorem pt1_any (x1 x2 x : Int) (bs : Nat) (w : World) (hc : w.cell? ⟨bs, 0, none⟩ = some (.int .i64 x)) :
    Calls Tryz.prog 148 #[.agg #[.int .i64 x1, .int .i64 x2], .pointer (some ⟨bs, 0, none⟩)] w fun e w' => e = .returned (.bool (x1 == x)) ∧ Below w.heap.size w w' := by
  have q := have_cell hc
  have hs0 : Since w w := since_refl _
  clear hc
  go_enter Tryz.func148, Tryz.ntmps148
  have hs1 : Since w (w.alloc (.cells #[.int .i64 x1, .int .i64 x2] 96)) := since_alloc _ hs0
  go_wp2
  go_ret
  exact ⟨rfl, hs1⟩
theorem hn1_ent : ∀ args w, (callFunc 196 args).run Tryz.prog w = .ok (.enter 196 args) w := enters_of Tryz.func196 (by kernel_rfl) rfl
theorem hn1_any (x1 x2 : Int) (vs : Value) (set : List Int) (bs : Nat) (w : World) (h : IntS w vs set) (hc : w.cell? ⟨bs, 0, none⟩ = some vs) :
    Calls Tryz.prog 196 #[.agg #[.int .i64 x1, .int .i64 x2], .pointer (some ⟨bs, 0, none⟩)] w fun e w' => e = .returned (.bool (hasB set x1)) ∧ Below w.heap.size w w' := by
  have H := Lib.hid h
  obtain ⟨A, c, rfl, _⟩ := h
  have q := have_cell hc
  have hs0 : Since w w := since_refl _
  have hs1 : Since w (w.alloc (.cells #[.int .i64 x1, .int .i64 x2] 96)) := since_alloc _ hs0
  obtain ⟨z, hz⟩ : ∃ z, z = hasB set x1 := ⟨_, rfl⟩
  have Hz := Lib.hid hz
  rw [← hz]
  clear hc hz
  go_enter Tryz.func196, Tryz.ntmps196
  go_wp2_with fail
  refine (containsI_any _ set x1 _ (H.out.keep hs1.below)).mono ?_
  rw [← Hz.out]
  rintro e w2 ⟨rfl, rfl⟩
  go_wp2
  go_ret
  exact ⟨rfl, hs1⟩
set_option maxHeartbeats 1600000 in
theorem areJoined_any (ve vi vn : Value) (n : Net) (v : Nat) (x : Int) (w : World) (h : NetIn w ve vi vn n) (hn : netOk n = true) (hv : v < n.ends.length) :
    Calls Tryz.prog 144 #[.agg #[ve, vi, vn], .int .i64 v, .int .i64 x] w fun e w' => e = .returned (.bool ((rowOf n v).any (fun e => e.1 == x))) ∧ Below w.heap.size w w' := by
  obtain ⟨w0, hw0⟩ : ∃ w0, w0 = ((w).alloc (.cells #[ve, vi, vn] 31)).alloc (.cells #[.int .i64 x] 3) := ⟨_, rfl⟩
  have hb0 : Below w.heap.size w w0 := by rw [hw0]; exact (((Below.refl _ _).alloc (by simp <;> omega) _).alloc (by simp <;> omega) _)
  have H := Lib.hid (h.keep hb0)
  obtain ⟨h1, h2, h3⟩ := h.keep hb0
  obtain ⟨A, c, rfl, hlc, hm, hA⟩ := h1
  obtain ⟨A2, c2, rfl, _, hm2, _⟩ := h2
  obtain ⟨A3, c3, rfl, _, hm3, _⟩ := h3
  unfold maxLen at hm hm2 hm3
  have p00 : ∀ W, Since w0 W → W.cell? ⟨w.heap.size, 0, none⟩ = some (.slice A n.ends.length c) := have_cell (by rw [hw0]; simp)
  have p01 : ∀ W, Since w0 W → W.cell? ⟨w.heap.size, 1, none⟩ = some (.slice A2 n.ids.length c2) := have_cell (by rw [hw0]; simp)
  have p02 : ∀ W, Since w0 W → W.cell? ⟨w.heap.size, 2, none⟩ = some (.slice A3 n.inputs.length c3) := have_cell (by rw [hw0]; simp)
  have p10 : ∀ W, Since w0 W → W.cell? ⟨w.heap.size + 1, 0, none⟩ = some (.int .i64 x) := have_cell (by rw [hw0]; simp)
  have Hb0 := Lib.hid hb0
  have Hw0 := Lib.hid hw0
  have HA := Lib.hid hA
  clear hA h
  clear hb0 hw0
  obtain ⟨row1, row2, row3⟩ := row_net hn hv
  obtain ⟨es, hes⟩ : ∃ es, es = rowOf n v := ⟨_, rfl⟩
  have Hes := Lib.hid hes
  rw [← hes] at row1
  obtain ⟨b, offr, cr, ur, hA1, hkr, hc1, hrow⟩ := row_at H.out.es row1
  cases hA1
  have tr := have_cell hc1
  have hs0 : Since w0 w0 := since_refl _
  have Hc := Lib.hid (containsFuncE_any ur es _ #[.pointer (some ⟨w.heap.size + 1, 0, none⟩)] (fun e => e.1 == x) w0 hrow aj1_ent (fun e _ W hW => aj1_any e.1 e.2 x _ W (p10 W hW)))
  obtain ⟨A1, z1, rfl, hz1, hz2, _⟩ := hrow
  clear row1 row2 row3 hes hn hc1
  go_enter Tryz.func144, Tryz.ntmps144
  go_upto_region 1 with (fail)
  rw [← Hw0.out]
  go_wp2_with fail
  refine Hc.out.mono ?_
  rw [Hes.out]
  rintro e w1 ⟨he, hb⟩
  rw [he]
  clear he
  have Hb := Lib.hid hb
  clear hb
  go_wp2
  go_ret
  exact ⟨rfl, Since.after Hb0.out Hb.out⟩
set_option maxHeartbeats 1600000 in
theorem portTo_any (ve vi vn : Value) (n : Net) (v : Nat) (x : Int) (w : World) (h : NetIn w ve vi vn n) (hn : netOk n = true) (hv : v < n.ends.length) :
    Calls Tryz.prog 81 #[.agg #[ve, vi, vn], .int .i64 v, .int .i64 x] w fun e w' => e = .returned (.int .i64 (portB n v x)) ∧ Below w.heap.size w w' := by
  obtain ⟨w0, hw0⟩ : ∃ w0, w0 = ((w).alloc (.cells #[ve, vi, vn] 31)).alloc (.cells #[.int .i64 x] 3) := ⟨_, rfl⟩
  have hb0 : Below w.heap.size w w0 := by rw [hw0]; exact (((Below.refl _ _).alloc (by simp <;> omega) _).alloc (by simp <;> omega) _)
  have H := Lib.hid (h.keep hb0)
  obtain ⟨h1, h2, h3⟩ := h.keep hb0
  obtain ⟨A, c, rfl, hlc, hm, hA⟩ := h1
  obtain ⟨A2, c2, rfl, _, hm2, _⟩ := h2
  obtain ⟨A3, c3, rfl, _, hm3, _⟩ := h3
  unfold maxLen at hm hm2 hm3
  have p00 : ∀ W, Since w0 W → W.cell? ⟨w.heap.size, 0, none⟩ = some (.slice A n.ends.length c) := have_cell (by rw [hw0]; simp)
  have p01 : ∀ W, Since w0 W → W.cell? ⟨w.heap.size, 1, none⟩ = some (.slice A2 n.ids.length c2) := have_cell (by rw [hw0]; simp)
  have p02 : ∀ W, Since w0 W → W.cell? ⟨w.heap.size, 2, none⟩ = some (.slice A3 n.inputs.length c3) := have_cell (by rw [hw0]; simp)
  have p10 : ∀ W, Since w0 W → W.cell? ⟨w.heap.size + 1, 0, none⟩ = some (.int .i64 x) := have_cell (by rw [hw0]; simp)
  have Hb0 := Lib.hid hb0
  have Hw0 := Lib.hid hw0
  have HA := Lib.hid hA
  clear hA h
  clear hb0 hw0
  obtain ⟨row1, row2, row3⟩ := row_net hn hv
  obtain ⟨es, hes⟩ : ∃ es, es = rowOf n v := ⟨_, rfl⟩
  have Hes := Lib.hid hes
  rw [← hes] at row1
  obtain ⟨b, offr, cr, ur, hA1, hkr, hc1, hrow⟩ := row_at H.out.es row1
  cases hA1
  have tr := have_cell hc1
  have hs0 : Since w0 w0 := since_refl _
  have Hc := Lib.hid (indexFuncE_any ur es _ #[.pointer (some ⟨w.heap.size + 1, 0, none⟩)] (fun e => e.1 == x) w0 hrow pt1_ent (fun e _ W hW => pt1_any e.1 e.2 x _ W (p10 W hW)))
  obtain ⟨A1, z1, rfl, hz1, hz2, _⟩ := hrow
  clear row1 row2 row3 hes hn hc1
  go_enter Tryz.func81, Tryz.ntmps81
  go_upto_region 1 with (fail)
  rw [← Hw0.out]
  go_wp2_with fail
  refine Hc.out.mono ?_
  rw [Hes.out]
  rintro e w1 ⟨he, hb⟩
  rw [he]
  clear he
  have Hb := Lib.hid hb
  clear hb
  go_wp2
  go_ret
  exact ⟨rfl, Since.after Hb0.out Hb.out⟩
set_option maxHeartbeats 1600000 in
theorem hasNear_any (ve vi vn vs : Value) (n : Net) (v : Nat) (set : List Int) (w : World) (h : NetIn w ve vi vn n) (hse : IntS w vs set) (hn : netOk n = true) (hv : v < n.ends.length) :
    Calls Tryz.prog 145 #[.agg #[ve, vi, vn], .int .i64 v, vs] w fun e w' => e = .returned (.bool ((rowOf n v).any (fun e => hasB set e.1))) ∧ Below w.heap.size w w' := by
  have HS0 := Lib.hid hse
  obtain ⟨AL, cL, rfl, hlL, hmL, _⟩ := hse
  obtain ⟨w0, hw0⟩ : ∃ w0, w0 = ((w).alloc (.cells #[ve, vi, vn] 31)).alloc (.cells #[.slice AL set.length cL] 23) := ⟨_, rfl⟩
  have hb0 : Below w.heap.size w w0 := by rw [hw0]; exact (((Below.refl _ _).alloc (by simp <;> omega) _).alloc (by simp <;> omega) _)
  have H := Lib.hid (h.keep hb0)
  obtain ⟨h1, h2, h3⟩ := h.keep hb0
  obtain ⟨A, c, rfl, hlc, hm, hA⟩ := h1
  obtain ⟨A2, c2, rfl, _, hm2, _⟩ := h2
  obtain ⟨A3, c3, rfl, _, hm3, _⟩ := h3
  unfold maxLen at hm hm2 hm3
  have p00 : ∀ W, Since w0 W → W.cell? ⟨w.heap.size, 0, none⟩ = some (.slice A n.ends.length c) := have_cell (by rw [hw0]; simp)
  have p01 : ∀ W, Since w0 W → W.cell? ⟨w.heap.size, 1, none⟩ = some (.slice A2 n.ids.length c2) := have_cell (by rw [hw0]; simp)
  have p02 : ∀ W, Since w0 W → W.cell? ⟨w.heap.size, 2, none⟩ = some (.slice A3 n.inputs.length c3) := have_cell (by rw [hw0]; simp)
  have p10 : ∀ W, Since w0 W → W.cell? ⟨w.heap.size + 1, 0, none⟩ = some (.slice AL set.length cL) := have_cell (by rw [hw0]; simp)
  have Hb0 := Lib.hid hb0
  have Hw0 := Lib.hid hw0
  have HA := Lib.hid hA
  clear hA h
  clear hb0 hw0
  have HS := Lib.hid (HS0.out.keep Hb0.out)
  obtain ⟨row1, row2, row3⟩ := row_net hn hv
  obtain ⟨es, hes⟩ : ∃ es, es = rowOf n v := ⟨_, rfl⟩
  have Hes := Lib.hid hes
  rw [← hes] at row1
  obtain ⟨b, offr, cr, ur, hA1, hkr, hc1, hrow⟩ := row_at H.out.es row1
  cases hA1
  have tr := have_cell hc1
  have hs0 : Since w0 w0 := since_refl _
  have Hc := Lib.hid (containsFuncE_any ur es _ #[.pointer (some ⟨w.heap.size + 1, 0, none⟩)] (fun e => hasB set e.1) w0 hrow hn1_ent (fun e _ W hW => hn1_any e.1 e.2 _ set _ W (HS.out.keep hW.below) (p10 W hW)))
  obtain ⟨A1, z1, rfl, hz1, hz2, _⟩ := hrow
  clear row1 row2 row3 hes hn hc1
  go_enter Tryz.func145, Tryz.ntmps145
  go_upto_region 1 with (fail)
  rw [← Hw0.out]
  go_wp2_with fail
  refine Hc.out.mono ?_
  rw [Hes.out]
  rintro e w1 ⟨he, hb⟩
  rw [he]
  clear he
  have Hb := Lib.hid hb
  clear hb
  go_wp2
  go_ret
  exact ⟨rfl, Since.after Hb0.out Hb.out⟩
theorem joined_no {n : Net} (hp : plainB n = true) {v : Nat} (hv : v < n.ends.length) : (rowOf n v).any (fun e => e.1 == (v : Int)) = false := by
  rw [List.any_eq_false]
  intro e he
  have := plain_row hp hv e.1 (by unfold bsee; rw [Int.toNat_natCast]; exact List.mem_map.2 ⟨e, he, rfl⟩)
  simpa using this
theorem setStep_le (n : Net) (s : List Int) (v : Int) : (setStep n s v).length ≤ s.length + 1 := by
  unfold setStep
  split
  · omega
  · rw [List.length_append, List.length_singleton]; omega
theorem ind_le {n : Net} : ∀ (k : Nat), ((upto k).foldl (setStep n) []).length ≤ k
  | 0 => by simp [upto]
  | k + 1 => by
    have e : upto (k + 1) = upto k ++ [(k : Int)] := by simp [upto, List.range_succ]
    rw [e, List.foldl_append, List.foldl_cons, List.foldl_nil]
    have h1 := ind_le (n := n) k
    have h2 := setStep_le n ((upto k).foldl (setStep n) []) (k : Int)
    omega
set_option maxRecDepth 100000 in
set_option maxHeartbeats 1600000 in
theorem greedyIndependent_any (ve vi vn vo : Value) (n : Net) (w : World) (h : NetIn w ve vi vn n) (hn : netOk n = true) (hp : plainB n = true) (ho : IntS w vo (upto n.ends.length)) :
    Calls Tryz.prog 79 #[.agg #[ve, vi, vn], vo] w fun e w' => ∃ u, e = .returned u ∧ Own w' w.heap.size u (indB n) ∧ Below w.heap.size w w' := by
  have hnl := netOk_len hn
  obtain ⟨w0, hw0⟩ : ∃ w0, w0 = (w).alloc (.cells #[ve, vi, vn] 31) := ⟨_, rfl⟩
  have hb0 : Below w.heap.size w w0 := by rw [hw0]; exact ((Below.refl _ _).alloc (by simp) _)
  have H := Lib.hid (h.keep hb0)
  obtain ⟨h1, h2, h3⟩ := h.keep hb0
  obtain ⟨A, c, rfl, hlc, hm, hA⟩ := h1
  obtain ⟨A2, c2, rfl, _, hm2, _⟩ := h2
  obtain ⟨A3, c3, rfl, _, hm3, _⟩ := h3
  unfold maxLen at hm hm2 hm3
  have p00 : ∀ W, Since w0 W → W.cell? ⟨w.heap.size, 0, none⟩ = some (.slice A n.ends.length c) := have_cell (by rw [hw0]; simp)
  have p01 : ∀ W, Since w0 W → W.cell? ⟨w.heap.size, 1, none⟩ = some (.slice A2 n.ids.length c2) := have_cell (by rw [hw0]; simp)
  have p02 : ∀ W, Since w0 W → W.cell? ⟨w.heap.size, 2, none⟩ = some (.slice A3 n.inputs.length c3) := have_cell (by rw [hw0]; simp)
  have Hb0 := Lib.hid hb0
  have Hw0 := Lib.hid hw0
  have HA := Lib.hid hA
  clear hA h
  clear hb0 hw0
  obtain ⟨os, hos⟩ : ∃ os, os = upto n.ends.length := ⟨_, rfl⟩
  have hol : os.length = n.ends.length := by rw [hos, upto_len]
  have Hok : Hid (∀ (k : Nat) (x : Int), os[k]? = some x → x = (k : Int) ∧ k < n.ends.length ∧ os.take (k + 1) = os.take k ++ [(k : Int)]) := fun k x hx => by
    have hk : k < n.ends.length := by rw [← hol]; exact lt_of_get hx
    have e : (upto n.ends.length)[k]? = some (k : Int) := by simp [upto, hk]
    rw [hos, e] at hx
    refine ⟨(Option.some.inj hx).symm, hk, ?_⟩
    rw [hos]; exact take_snoc e
  rw [← hos] at ho
  obtain ⟨AP, cP, rfl, hlP, hmP, hAP⟩ := ho
  unfold maxLen at hmP
  have HS := Lib.hid (show ∀ k x, os[k]? = some x → ∃ b off, AP = some ⟨b, off, none⟩ ∧ w0.cell? ⟨b, off + k, none⟩ = some (.int .i64 x) from fun k x hx => by obtain ⟨b, off, e, hc⟩ := hAP k x hx; exact ⟨b, off, e, bc Hb0.out hc⟩)
  have Hn := Lib.hid hn
  have Hp := Lib.hid hp
  have Hol := Lib.hid hol
  have hos40 : os.length ≤ 40 := by omega
  have hs0 : Since w0 w0 := since_refl _
  clear hAP hos hn hp hol
  go_enter Tryz.func79, Tryz.ntmps79
  go_upto_region 1 with (fail)
  rw [← Hw0.out]
  go_wp2
  go_loopw [5, 10] (fun u i wr => ∃ (k : Nat) (set : List Int), k ≤ os.length ∧ i = .int .i64 k ∧ set = (upto k).foldl (setStep n) [] ∧ Own wr w0.heap.size u set ∧ Since w0 wr) (fun _ i _ => os.length - (intOf i).toNat)
  case atStart => exact ⟨0, [], Nat.zero_le _, rfl, by simp [upto], own_nil _ w0.heap.size, hs0⟩
  case round =>
    obtain ⟨k, set, hk, rfl, hset, ho, hsr⟩ := hrel
    have Ho := Lib.hid ho
    have Hset := Lib.hid hset
    have hsl : set.length ≤ k := by rw [hset]; exact ind_le k
    clear ho hset hs0
    by_cases hlt : k < os.length
    · obtain ⟨x, hx⟩ := getx os k hlt
      obtain ⟨b, off, rfl, hcell⟩ := HS.out k x hx
      have d0 := hsr.cell hcell
      obtain ⟨rfl, hkn, -⟩ := Hok.out k x hx
      have e1 : upto (k + 1) = upto k ++ [(k : Int)] := by simp [upto, List.range_succ]
      obtain ⟨z, hz⟩ : ∃ z, z = (rowOf n k).any (fun e => hasB set e.1) := ⟨_, rfl⟩
      have Hz := Lib.hid hz
      have Hn1 : Hid ((upto (k + 1)).foldl (setStep n) [] = if z = true then set else set ++ [(k : Int)]) := by
        show _ = _
        rw [e1, List.foldl_append, ← Hset.out]
        show setStep n set (k : Int) = _
        unfold setStep
        rw [Int.toNat_natCast, ← hz]
      have m3 : IntKind.i64.wrap ((k : Int) + 1) = (k : Int) + 1 := wr64 _ (by omega) (by omega)
      obtain ⟨us, hus⟩ : ∃ us, us = u5 := ⟨_, rfl⟩
      subst hus
      obtain ⟨Bu, du, rfl, hld, hmd, _⟩ := id Ho.out.ints
      have Haj : Hid (∀ W, Since w0 W → Calls Tryz.prog 144 #[.agg #[.slice A n.ends.length c, .slice A2 n.ids.length c2, .slice A3 n.inputs.length c3], .int .i64 k, .int .i64 k] W fun e w' => e = .returned (.bool false) ∧ Below W.heap.size W w') := fun W hW => by
        have := areJoined_any _ _ _ n k (k : Int) W (H.out.keep hW.below) Hn.out hkn
        rw [joined_no Hp.out hkn] at this
        exact this
      have Hhn : Hid (∀ W, Since wr W → Calls Tryz.prog 145 #[.agg #[.slice A n.ends.length c, .slice A2 n.ids.length c2, .slice A3 n.inputs.length c3], .int .i64 k, .slice Bu set.length du] W fun e w' => e = .returned (.bool z) ∧ Below W.heap.size W w') := fun W hW => by
        rw [hz]; exact hasNear_any _ _ _ _ n k set W (H.out.keep (hsr.after hW).below) (Ho.out.ints.keep hW.below) Hn.out hkn
      have Hlen : Hid (set.length + 1 ≤ 17592186044416) := by show _ ≤ _; omega
      clear hx hcell e1 hz
      go_upto_region 5 with (fail)
      have p00' := lift_cell p00 hsr
      have p01' := lift_cell p01 hsr
      have p02' := lift_cell p02 hsr
      have Hsr := Lib.hid hsr
      clear hsr d0
      refine wp_region_flow0 12 (Since wr) (since_refl _) ?_
      simp only [List.take_succ_cons, List.take_zero, List.drop_succ_cons, List.drop_zero]
      refine flow_val (v := ?_) rfl ?_ ?_; rotate_left; (intro W hW; go_simp; with_reducible rfl)
      simp only [Act.put, List.setIfInBounds_toArray, List.set_cons_succ, List.set_cons_zero]
      refine flow_val (v := ?_) rfl ?_ ?_; rotate_left; (intro W hW; go_simp; with_reducible rfl)
      simp only [Act.put, List.setIfInBounds_toArray, List.set_cons_succ, List.set_cons_zero]
      refine flow_val (v := ?_) rfl ?_ ?_; rotate_left; (intro W hW; go_simp; with_reducible rfl)
      simp only [Act.put, List.setIfInBounds_toArray, List.set_cons_succ, List.set_cons_zero]
      refine flow_op ?_ rfl ?_ ?_; rotate_left; (intro W hW; unfold Gives; go_simp; (with_reducible refine (Haj.out W (Hsr.out.after hW)).mono ?_); rintro e W' ⟨rfl, hb3⟩; first | (refine ⟨?_, Since.trans hW hb3⟩; with_reducible rfl) | (subst hb3; refine ⟨?_, hW⟩; with_reducible rfl))
      simp only [Act.put, List.setIfInBounds_toArray, List.set_cons_succ, List.set_cons_zero]
      refine flow_val (v := ?_) rfl ?_ ?_; rotate_left; (intro W hW; go_simp; with_reducible rfl)
      simp only [Act.put, List.setIfInBounds_toArray, List.set_cons_succ, List.set_cons_zero]
      refine flow_val (v := ?_) rfl ?_ ?_; rotate_left; (intro W hW; go_simp; with_reducible rfl)
      simp only [Act.put, List.setIfInBounds_toArray, List.set_cons_succ, List.set_cons_zero]
      refine flow_gval (v := ?_) rfl rfl ?_ ?_; rotate_left; (intro hb W hW; go_simp; with_reducible rfl)
      simp only [Act.put, List.setIfInBounds_toArray, List.set_cons_succ, List.set_cons_zero]
      refine flow_gval (v := ?_) rfl rfl ?_ ?_; rotate_left; (intro hb W hW; go_simp; with_reducible rfl)
      simp only [Act.put, List.setIfInBounds_toArray, List.set_cons_succ, List.set_cons_zero]
      refine flow_gval (v := ?_) rfl rfl ?_ ?_; rotate_left; (intro hb W hW; go_simp; with_reducible rfl)
      simp only [Act.put, List.setIfInBounds_toArray, List.set_cons_succ, List.set_cons_zero]
      refine flow_gop (v := ?_) rfl rfl ?_ ?_; rotate_left; (intro hb W hW; unfold Gives; go_simp; (with_reducible refine (Hhn.out W hW).mono ?_); rintro e W' ⟨rfl, hb3⟩; first | (refine ⟨?_, Since.trans hW hb3⟩; with_reducible rfl) | (subst hb3; refine ⟨?_, hW⟩; with_reducible rfl))
      simp only [Act.put, List.setIfInBounds_toArray, List.set_cons_succ, List.set_cons_zero]
      refine flow_gval (v := ?_) rfl rfl ?_ ?_; rotate_left; (intro hb W hW; go_simp; with_reducible rfl)
      simp only [Act.put, List.setIfInBounds_toArray, List.set_cons_succ, List.set_cons_zero]
      first | refine flow_and rfl rfl ?_ | (refine flow_val (v := ?_) rfl ?_ ?_; rotate_left; (intro W hW; go_simp; with_reducible rfl))
      simp only [Act.put, List.setIfInBounds_toArray, List.set_cons_succ, List.set_cons_zero]
      intro W hW
      have hsW := Hsr.out.after hW
      have Ho1 := Lib.hid (Ho.out.since hW)
      clear hW p00' p01' p02'
      cases z
      · have Hn2 : Hid (set ++ [(k : Int)] = (upto (k + 1)).foldl (setStep n) []) := Hn1.out.symm
        go_wp2_with (at_builtin; refine app_int_s rfl _ _ rfl rfl (Ho1.out.since (since_alloc _ (since_refl _))) W.heap.size k rfl (by simp [go_sem]) Hlen.out (since_alloc _ hsW) ?_; intro g cc w2 ho2 hs3)
        have Ho3 := Lib.hid ho2
        have Hs3 := Lib.hid hs3
        clear ho2 hs3 hsW
        go_wp2
        go_roundw
        case rel => exact ⟨k + 1, set ++ [(k : Int)], by omega, by go_num, Hn2.out, Ho3.out, Hs3.out⟩
        case measure => simp [intOf]; omega
      · have Hn2 : Hid (set = (upto (k + 1)).foldl (setStep n) []) := Hn1.out.symm
        go_wp2
        go_roundw
        case rel => exact ⟨k + 1, set, by omega, by go_num, Hn2.out, Ho1.out, hsW⟩
        case measure => simp [intOf]; omega
    · have Hr : Hid (set = indB n) := by show _ = _; rw [Hset.out]; unfold indB; rw [show k = n.ends.length by rw [← Hol.out]; omega]
      obtain rfl : k = os.length := by omega
      have hsort := sort_any u5 set wr w0.heap.size Ho.out (by omega)
      rw [Hr.out, ind_sort] at hsort
      have Hsort := Lib.hid hsort
      have Hown := Lib.hid (fun j hj => (World.ownsRow.lt Ho.out j hj).1)
      clear hsort
      go_wp2_with fail
      refine Hsort.out.mono ?_
      rintro e w2 ⟨rfl, ho2, hg2⟩
      have Ho2 := Lib.hid ho2
      have Hs2 : Hid (Since w0 w2) := Below.grown hsr hg2 (Since.below hsr).size Hown.out
      clear ho2 hg2
      go_wp2
      go_ret
      exact ⟨_, rfl, Ho2.out.mono Hb0.out.size, Since.after Hb0.out Hs2.out⟩
end Go.Proofs.YtlfehdikgbgloaaGreat
namespace Go.Proofs.YtlfehdikgbgloaaGreat
open Go.RowKit
theorem app_copy {w w0 : World} {ops : Array Oper} {rest : List Oper} {o : Oper} {a : Act} {Q : Exit → Act → World → Prop} (hgd : o.guard = none) (s x : Operand)
    (ho : o.op = .call { callee := .builtin .append, args := #[s, x], argTypes := #[23, 23] }) {v : Value} (hs : a.eval s = v) (h : Own w w0.heap.size v []) (b off c : Nat) (ys : List Int)
    (hx : a.eval x = .slice (some ⟨b, off, none⟩) ys.length c) (hc : ∀ j y, ys[j]? = some y → w.cell? ⟨b, off + j, none⟩ = some (.int .i64 y)) (hy : 0 < ys.length) (hl : ys.length ≤ 17592186044416) (hsn : Since w0 w)
    (k : ∀ g cap w', Own w' w0.heap.size (.slice (some ⟨g, 0, none⟩) ys.length cap) ys → Since w0 w' → wpList Tryz.prog ops Q rest (a.put o.dst (.slice (some ⟨g, 0, none⟩) ys.length cap)) w') : wpList Tryz.prog ops Q (o :: rest) a w := by
  refine app_ints hgd s x ho hs h b off c ys hx hc hy (by simpa using hl) hsn.size ?_
  intro g cap w' h1 h2 h3 h4
  simp only [List.length_nil, Nat.zero_add, List.nil_append] at h1 ⊢
  exact k g cap w' h1 (Below.grown hsn h2 hsn.size (fun j hj => (World.ownsRow.lt h j hj).1))
set_option maxRecDepth 100000 in
set_option maxHeartbeats 1600000 in
theorem l1Put_any (v : Value) (l : List Int) (x : Int) (w : World) (base : Nat) (h : Own w base v l) (hlt : ∀ y ∈ l, y < x) (hl : l.length ≤ 1000000) (hnz : l = [] → v = .slice none 0 0) :
    Calls Tryz.prog 186 #[v, .int .i64 x] w fun e w' => ∃ u, e = .returned u ∧ Own w' w.heap.size u (l ++ [x]) ∧ Below w.heap.size w w' := by
  have ho := own_lit w [] (by simp [maxLen])
  simp only [List.map_nil, List.length_nil] at ho
  have Ho := Lib.hid ho
  clear ho
  rcases h.cases with ⟨rfl, rfl⟩ | ⟨g, c, rfl, hg1, hg2⟩
  · clear h hlt
    go_enter Tryz.func186, Tryz.ntmps186
    go_wp2
    go_loopw [5] (fun i wr => i = .int .i64 0 ∧ wr = w) (fun _ _ => 0)
    case atStart => exact ⟨rfl, rfl⟩
    case round =>
      obtain ⟨rfl, rfl⟩ := hrel
      have hs1 : Since wr (wr.alloc (Obj.cells #[] 3)) := since_alloc _ (since_refl _)
      have Ho1 := Lib.hid (Ho.out.since (since_alloc (.cells #[.int .i64 x] 3) (since_refl _)))
      have Hs1 := Lib.hid (since_alloc (.cells #[.int .i64 x] 3) hs1)
      clear hs1
      go_wp2_with (at_builtin; first | (refine app_zero rfl _ _ rfl rfl ho2 none 0 rfl ?_) | (refine app_int_s (w0 := wr) rfl _ _ rfl rfl Ho1.out (wr.heap.size + 1) x rfl (by simp [go_sem]) (by simp) Hs1.out ?_; intro g cc w2 ho2 hs3))
      have Ho2 := Lib.hid ho2
      have Hs2 := Lib.hid hs3
      clear ho2 hs3
      go_wp2
      go_ret
      exact ⟨_, rfl, by have := Ho2.out; simpa using this, Hs2.out⟩
  · have Hh := Lib.hid h
    have Hlt := Lib.hid hlt
    have Hpos : Hid (0 < l.length) := by
      show _ < _
      rcases Nat.eq_zero_or_pos l.length with e | e
      · have := hnz (List.length_eq_zero_iff.1 e); simp at this
      · exact e
    have hcl := h.bd
    unfold maxLen at hcl
    have hlc : l.length ≤ c ∧ c ≤ maxLen := by
      obtain ⟨_, _, e, q1, q2, _⟩ := h.ints
      cases e
      exact ⟨q1, q2⟩
    unfold maxLen at hlc
    obtain ⟨hlc1, hlc2⟩ := hlc
    clear h hlt hnz
    go_enter Tryz.func186, Tryz.ntmps186
    go_wp2
    go_loopw [5] (fun i wr => ∃ k : Nat, k ≤ l.length ∧ i = .int .i64 k ∧ wr = w) (fun i _ => l.length - (intOf i).toNat)
    case atStart => exact ⟨0, Nat.zero_le _, rfl, rfl⟩
    case round =>
      obtain ⟨k, hk, rfl, hww⟩ := hrel
      subst hww
      by_cases hkl : k < l.length
      · obtain ⟨y, hy⟩ := getx l k hkl
        have d0 := Hh.out.cell hy
        have hyx : decide (y < x) = true := decide_eq_true (Hlt.out y (List.mem_of_getElem? hy))
        have m3 : IntKind.i64.wrap ((k : Int) + 1) = (k : Int) + 1 := wr64 _ (by omega) (by omega)
        clear hy
        go_wp2
        go_roundw
        case rel => exact ⟨k + 1, by omega, by go_num, by first | rfl | trivial⟩
        case measure => simp [intOf]; omega
      · obtain rfl : k = l.length := by omega
        have h0 : 0 < l.length := Hpos.out
        have HA : Hid (∀ j y, l[j]? = some y → wr.cell? ⟨g, 0 + j, none⟩ = some (.int .i64 y)) := fun j y hj => by rw [Nat.zero_add]; exact Hh.out.cell hj
        have hlen : l.length + 1 ≤ 17592186044416 := by omega
        have hlen0 : l.length ≤ 17592186044416 := by omega
        go_wp2_with (at_builtin; first | (refine app_zero rfl _ _ rfl rfl ho4 _ _ rfl ?_) | (refine app_int_s (w0 := wr) rfl _ _ rfl rfl (ho2.since (since_alloc _ (since_refl _))) w2.heap.size x rfl (by simp [go_sem]) hlen (since_alloc _ hs2) ?_; intro g4 cc4 w4 ho4 hs4) | (refine app_copy (w0 := wr) rfl _ _ rfl rfl Ho.out g 0 c l rfl (fun j y hj => bc (below_alloc _ _) (HA.out j y hj)) h0 hlen0 (since_alloc _ (since_refl _)) ?_; intro g2 cc w2 ho2 hs2))
        all_goals
          have Ho4 := Lib.hid ho4
          have Hs4 := Lib.hid hs4
          clear ho4 hs4 ho2 hs2
          try go_wp2
          go_ret
          exact ⟨_, rfl, Ho4.out, Hs4.out⟩
set_option maxRecDepth 100000 in
set_option maxHeartbeats 1600000 in
theorem ruGreedy_any (ve vi vn vo : Value) (n : Net) (w : World) (h : NetIn w ve vi vn n) (hn : netOk n = true) (ho : IntS w vo (upto n.ends.length)) :
    Calls Tryz.prog 136 #[.agg #[ve, vi, vn], vo, .int .i64 2] w fun e w' => ∃ u, e = .returned u ∧ Own w' w.heap.size u (indB n) ∧ Below w.heap.size w w' := by
  have hnl := netOk_len hn
  obtain ⟨w0, hw0⟩ : ∃ w0, w0 = (w).alloc (.cells #[ve, vi, vn] 31) := ⟨_, rfl⟩
  have hb0 : Below w.heap.size w w0 := by rw [hw0]; exact ((Below.refl _ _).alloc (by simp) _)
  have H := Lib.hid (h.keep hb0)
  obtain ⟨h1, h2, h3⟩ := h.keep hb0
  obtain ⟨A, c, rfl, hlc, hm, hA⟩ := h1
  obtain ⟨A2, c2, rfl, _, hm2, _⟩ := h2
  obtain ⟨A3, c3, rfl, _, hm3, _⟩ := h3
  unfold maxLen at hm hm2 hm3
  have p00 : ∀ W, Since w0 W → W.cell? ⟨w.heap.size, 0, none⟩ = some (.slice A n.ends.length c) := have_cell (by rw [hw0]; simp)
  have p01 : ∀ W, Since w0 W → W.cell? ⟨w.heap.size, 1, none⟩ = some (.slice A2 n.ids.length c2) := have_cell (by rw [hw0]; simp)
  have p02 : ∀ W, Since w0 W → W.cell? ⟨w.heap.size, 2, none⟩ = some (.slice A3 n.inputs.length c3) := have_cell (by rw [hw0]; simp)
  have Hb0 := Lib.hid hb0
  have Hw0 := Lib.hid hw0
  have HA := Lib.hid hA
  clear hA h
  clear hb0 hw0
  obtain ⟨os, hos⟩ : ∃ os, os = upto n.ends.length := ⟨_, rfl⟩
  have hol : os.length = n.ends.length := by rw [hos, upto_len]
  have Hok : Hid (∀ (k : Nat) (x : Int), os[k]? = some x → x = (k : Int) ∧ k < n.ends.length) := fun k x hx => by
    have hk : k < n.ends.length := by rw [← hol]; exact lt_of_get hx
    have e : (upto n.ends.length)[k]? = some (k : Int) := by simp [upto, hk]
    rw [hos, e] at hx
    exact ⟨(Option.some.inj hx).symm, hk⟩
  rw [← hos] at ho
  obtain ⟨AP, cP, rfl, hlP, hmP, hAP⟩ := ho
  unfold maxLen at hmP
  have HS := Lib.hid (show ∀ k x, os[k]? = some x → ∃ b off, AP = some ⟨b, off, none⟩ ∧ w0.cell? ⟨b, off + k, none⟩ = some (.int .i64 x) from fun k x hx => by obtain ⟨b, off, e, hc⟩ := hAP k x hx; exact ⟨b, off, e, bc Hb0.out hc⟩)
  have Hn := Lib.hid hn
  have Hol := Lib.hid hol
  have hos40 : os.length ≤ 40 := by omega
  have hs0 : Since w0 w0 := since_refl _
  clear hAP hos hn hol
  go_enter Tryz.func136, Tryz.ntmps136
  go_upto_region 1 with (fail)
  rw [← Hw0.out]
  go_wp2
  go_loopw [7, 12] (fun u i wr => ∃ (k : Nat) (set : List Int), k ≤ os.length ∧ i = .int .i64 k ∧ set = (upto k).foldl (setStep n) [] ∧ Own wr w0.heap.size u set ∧ (set = [] → u = .slice none 0 0) ∧ Since w0 wr) (fun _ i _ => os.length - (intOf i).toNat)
  case atStart => exact ⟨0, [], Nat.zero_le _, rfl, by simp [upto], own_nil _ w0.heap.size, fun _ => rfl, hs0⟩
  case round =>
    obtain ⟨k, set, hk, rfl, hset, ho, hnz, hsr⟩ := hrel
    have Ho := Lib.hid ho
    have Hset := Lib.hid hset
    have hsl : set.length ≤ k := by rw [hset]; exact ind_le k
    have Hin : Hid (∀ x ∈ set, 0 ≤ x ∧ x < (k : Int)) := by rw [hset]; exact ind_lt k
    have Hnz := Lib.hid hnz
    clear ho hset hs0 hnz
    by_cases hlt : k < os.length
    · obtain ⟨x, hx⟩ := getx os k hlt
      obtain ⟨b, off, rfl, hcell⟩ := HS.out k x hx
      have d0 := hsr.cell hcell
      obtain ⟨rfl, hkn⟩ := Hok.out k x hx
      have e1 : upto (k + 1) = upto k ++ [(k : Int)] := by simp [upto, List.range_succ]
      obtain ⟨z, hz⟩ : ∃ z, z = inB 0 1 (ruFarB n set k) := ⟨_, rfl⟩
      have Hz := Lib.hid hz
      have Hn1 : Hid ((upto (k + 1)).foldl (setStep n) [] = if z = true then set else set ++ [(k : Int)]) := by
        show _ = _
        rw [e1, List.foldl_append, ← Hset.out]
        show setStep n set (k : Int) = _
        unfold setStep
        rw [Int.toNat_natCast, ← ind_step Hn.out hkn Hin.out, ← hz]
      have m3 : IntKind.i64.wrap ((k : Int) + 1) = (k : Int) + 1 := wr64 _ (by omega) (by omega)
      obtain ⟨Bu, du, rfl, hld, hmd, _⟩ := id Ho.out.ints
      have hcall := ruFar_any _ _ _ _ n set k wr (H.out.keep hsr.below) Hn.out Ho.out.ints hkn (fun y hy => by have := Hin.out y hy; omega) (by omega)
      obtain ⟨q, hq⟩ : ∃ q, q = ruFarB n set k := ⟨_, rfl⟩
      rw [← hq] at hcall
      have Hq := Lib.hid hq
      have Hcall := Lib.hid hcall
      clear hx hcell e1 hz hcall hq
      go_wp2_with fail
      refine Hcall.out.mono ?_
      rintro e w2 ⟨rfl, hb2⟩
      have hs2 : Since w0 w2 := hsr.trans hb2
      have Ho2 := Lib.hid (Ho.out.keep hb2)
      clear hb2 hsr d0
      go_wp2_with fail
      refine (l1In_b q 0 1 w2).mono ?_
      rw [Hq.out, ← Hz.out]
      rintro e w3 ⟨rfl, rfl⟩
      cases z
      · have Hn2 : Hid (set ++ [(k : Int)] = (upto (k + 1)).foldl (setStep n) []) := Hn1.out.symm
        go_wp2_with fail
        refine (l1Put_any _ set k w2 w0.heap.size Ho2.out (fun y hy => (Hin.out y hy).2) (by omega) Hnz.out).mono ?_
        rintro e w4 ⟨u4, rfl, ho4, hb4⟩
        have Ho4 := Lib.hid (ho4.mono (Since.below hs2).size)
        have Hs4 := Lib.hid (hs2.trans hb4)
        clear ho4 hb4 hs2
        go_wp2
        go_roundw
        case rel => exact ⟨k + 1, set ++ [(k : Int)], by omega, by go_num, Hn2.out, Ho4.out, fun e => by simp at e, Hs4.out⟩
        case measure => simp [intOf]; omega
      · have Hn2 : Hid (set = (upto (k + 1)).foldl (setStep n) []) := Hn1.out.symm
        go_wp2
        go_roundw
        case rel => exact ⟨k + 1, set, by omega, by go_num, Hn2.out, Ho2.out, Hnz.out, hs2⟩
        case measure => simp [intOf]; omega
    · have Hr : Hid (set = indB n) := by show _ = _; rw [Hset.out]; unfold indB; rw [show k = n.ends.length by rw [← Hol.out]; omega]
      obtain rfl : k = os.length := by omega
      go_wp2
      go_ret
      exact ⟨_, rfl, by rw [← Hr.out]; exact Ho.out.mono Hb0.out.size, Since.after Hb0.out hsr⟩
end Go.Proofs.YtlfehdikgbgloaaGreat
