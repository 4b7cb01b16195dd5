import Derived.Test.YthgbobikbdklhaaCrossL
import Derived.Test.YthgbobikbdklhaaCross3
namespace Go.Proofs.Ythgbobikbdklhaa
open Go.RowKit
def crossOkB (n : Net) (ls : List Int) : Bool := netOk n && ((ls.length : Int) == (n.ends.length : Int))
def fnExactCrossingsOf_d (n : Net) (ls : List Int) : List (List Int) := if crossOkB n ls = true then (crossings n ls).map lst4 else []
def fnExactCrossingsOf_r1 (n : Net) (ls : List Int) : Bool := crossOkB n ls
theorem cx_bad {n : Net} {ls : List Int} (h : (!netOk n || ((ls.length : Int) != (n.ends.length : Int))) = true) : crossOkB n ls = false := by
  unfold crossOkB
  cases h1 : netOk n
  · rfl
  · simp only [h1, Bool.not_true, Bool.false_or, bne_iff_ne] at h
    rw [beq_eq_false_iff_ne.2 h]
    rfl
theorem cx_good {n : Net} {ls : List Int} (h : (!netOk n || ((ls.length : Int) != (n.ends.length : Int))) = false) : crossOkB n ls = true ∧ netOk n = true ∧ ls.length = n.ends.length := by
  simp only [Bool.or_eq_false_iff, Bool.not_eq_false', bne_eq_false_iff_eq] at h
  refine ⟨?_, h.1, by omega⟩
  unfold crossOkB
  rw [h.1, h.2]
  simp
theorem cx_tup {n : Net} {ls : List Int} (h : crossOkB n ls = true) (u : Value) : Ending.returned (.tuple #[u, .bool true]) = .returned (.tuple #[u, .bool (fnExactCrossingsOf_r1 n ls)]) := by
  unfold fnExactCrossingsOf_r1
  rw [h]
theorem cx_tupF {n : Net} {ls : List Int} (h : crossOkB n ls = false) (u : Value) : Ending.returned (.tuple #[u, .bool false]) = .returned (.tuple #[u, .bool (fnExactCrossingsOf_r1 n ls)]) := by
  unfold fnExactCrossingsOf_r1
  rw [h]
theorem szR_lst4 (L : List Q4) : szR (L.map lst4) = 4 * L.length := by
  unfold szR
  induction L with
  | nil => rfl
  | cons a r ih => simp only [List.map_cons, List.sum_cons, List.length_cons] at *; rw [ih]; simp [lst4]; omega
theorem fnExactCrossingsOf_dl (n : Net) (ls : List Int) (_ : szNet n ≤ 1048576) (_ : ls.length ≤ 1048576) : szR (fnExactCrossingsOf_d n ls) ≤ 1000000000 := by
  unfold fnExactCrossingsOf_d
  split
  · rename_i h
    have hn : netOk n = true := by unfold crossOkB at h; simp only [Bool.and_eq_true] at h; exact h.1
    have h1 := crossTo_len ls hn n.ends.length
    have h2 := (netOk_len hn).2
    rw [szR_lst4]
    unfold crossings
    omega
  · simp [szR]
set_option maxRecDepth 100000 in
set_option maxHeartbeats 8000000 in
theorem fnExactCrossingsOf_spec (ve vi vn : Value) (n : Net) (vl : Value) (ls : List Int) (w : World) (h : NetIn w ve vi vn n) (hl : IntS w vl ls) (hsz : szNet n ≤ 1048576) (hbig : ls.length ≤ 1048576) :
    Calls Try.prog 7 #[.agg #[ve, vi, vn], vl] w fun e w' => ∃ u, e = .returned (.tuple #[u, .bool (fnExactCrossingsOf_r1 n ls)]) ∧ IntSS w' u (fnExactCrossingsOf_d n ls) ∧ Below w.heap.size w w' := by
  have HL0 := Lib.hid hl
  obtain ⟨LA, lc, rfl, _, hlm, _⟩ := hl
  unfold maxLen at hlm
  obtain ⟨w0, hw0⟩ : ∃ w0, w0 = (w).alloc (.cells #[ve, vi, vn] 32) := ⟨_, rfl⟩
  have hb0 : Below w.heap.size w w0 := by rw [hw0]; exact ((Below.refl _ _).alloc (by simp) _)
  have H := Lib.hid (h.keep hb0)
  obtain ⟨h1, h2, h3⟩ := h.keep hb0
  obtain ⟨A, c, rfl, hlc, hm, hA⟩ := h1
  obtain ⟨A2, c2, rfl, _, hm2, _⟩ := h2
  obtain ⟨A3, c3, rfl, _, hm3, _⟩ := h3
  unfold maxLen at hm hm2 hm3
  have p00 : ∀ W, Since w0 W → W.cell? ⟨w.heap.size, 0, none⟩ = some (.slice A n.ends.length c) := have_cell (by rw [hw0]; simp)
  have p01 : ∀ W, Since w0 W → W.cell? ⟨w.heap.size, 1, none⟩ = some (.slice A2 n.ids.length c2) := have_cell (by rw [hw0]; simp)
  have p02 : ∀ W, Since w0 W → W.cell? ⟨w.heap.size, 2, none⟩ = some (.slice A3 n.inputs.length c3) := have_cell (by rw [hw0]; simp)
  have Hb0 := Lib.hid hb0
  have Hw0 := Lib.hid hw0
  have HA := Lib.hid hA
  clear hA h
  clear hb0 hw0
  have HL := Lib.hid (HL0.out.keep Hb0.out)
  go_enter Try.func7, Try.ntmps7
  go_upto_region 1 with (fail)
  rw [← Hw0.out]
  refine wp_region_flow0 11 (Since w0) (since_refl _) ?_
  simp only [List.take_succ_cons, List.take_zero, List.drop_succ_cons, List.drop_zero]
  refine flow_val (v := ?_) rfl ?_ ?_; rotate_left; (intro W hW; go_simp; with_reducible rfl)
  simp only [Act.put, List.setIfInBounds_toArray, List.set_cons_succ, List.set_cons_zero]
  refine flow_op ?_ rfl ?_ ?_; rotate_left; (intro W hW; unfold Gives; go_simp; (with_reducible refine (neGood_any _ _ _ n W (H.out.keep hW.below)).mono ?_); rintro e W' ⟨rfl, hb3⟩; first | (refine ⟨?_, Since.trans hW hb3⟩; with_reducible rfl) | (subst hb3; refine ⟨?_, hW⟩; with_reducible rfl))
  simp only [Act.put, List.setIfInBounds_toArray, List.set_cons_succ, List.set_cons_zero]
  refine flow_val (v := ?_) rfl ?_ ?_; rotate_left; (intro W hW; go_simp; with_reducible rfl)
  simp only [Act.put, List.setIfInBounds_toArray, List.set_cons_succ, List.set_cons_zero]
  refine flow_val (v := ?_) rfl ?_ ?_; rotate_left; (intro W hW; go_simp; with_reducible rfl)
  simp only [Act.put, List.setIfInBounds_toArray, List.set_cons_succ, List.set_cons_zero]
  refine flow_gval (v := ?_) rfl rfl ?_ ?_; rotate_left; (intro hb; intro W hW; go_simp; with_reducible rfl)
  simp only [Act.put, List.setIfInBounds_toArray, List.set_cons_succ, List.set_cons_zero]
  refine flow_gval (v := ?_) rfl rfl ?_ ?_; rotate_left; (intro hb; intro W hW; go_simp; with_reducible rfl)
  simp only [Act.put, List.setIfInBounds_toArray, List.set_cons_succ, List.set_cons_zero]
  refine flow_gval (v := ?_) rfl rfl ?_ ?_; rotate_left; (intro hb; intro W hW; go_simp; with_reducible rfl)
  simp only [Act.put, List.setIfInBounds_toArray, List.set_cons_succ, List.set_cons_zero]
  refine flow_gval (v := ?_) rfl rfl ?_ ?_; rotate_left; (intro hb; intro W hW; go_simp; with_reducible rfl)
  simp only [Act.put, List.setIfInBounds_toArray, List.set_cons_succ, List.set_cons_zero]
  refine flow_gval (v := ?_) rfl rfl ?_ ?_; rotate_left; (intro hb; intro W hW; go_simp; with_reducible rfl)
  simp only [Act.put, List.setIfInBounds_toArray, List.set_cons_succ, List.set_cons_zero]
  refine flow_gval (v := ?_) rfl rfl ?_ ?_; rotate_left; (intro hb; intro W hW; go_simp; with_reducible rfl)
  simp only [Act.put, List.setIfInBounds_toArray, List.set_cons_succ, List.set_cons_zero]
  first | refine flow_or rfl rfl ?_ | (refine flow_val (v := ?_) rfl ?_ ?_; rotate_left; (intro W hW; go_simp; with_reducible rfl))
  simp only [Act.put, List.setIfInBounds_toArray, List.set_cons_succ, List.set_cons_zero]
  intro W1 hW1
  cases hg : (!netOk n || ((ls.length : Int) != (n.ends.length : Int)))
  · obtain ⟨hok, hn, hll⟩ := cx_good hg
    have Hok := Lib.hid hok
    have Hn := Lib.hid hn
    have Hll := Lib.hid hll
    have hn40 := (netOk_len hn).2
    have HCL := Lib.hid (crossTo_len ls hn)
    have HLE := Lib.hid (lenE_le hn)
    clear hg hok hn hll
    go_wp2
    go_loopw [6, 25] (fun u i wr => ∃ k : Nat, k ≤ n.ends.length ∧ i = .int .i64 k ∧ OwnR wr w0.heap.size wr.heap.size u (crossTo n ls k) ∧ Since w0 wr) (fun _ i _ => n.ends.length - (intOf i).toNat)
    case atStart => exact ⟨0, Nat.zero_le _, rfl, ownR_nil _ _ _, hW1⟩
    case round =>
      obtain ⟨k, hk, rfl, ho, hsr⟩ := hrel
      have Ho := Lib.hid ho
      clear hW1 ho
      by_cases hlt : k < n.ends.length
      · obtain ⟨es, hes⟩ := getx n.ends k hlt
        obtain ⟨b, offr, cr, ur, hA1, hkr, hc1, hrow⟩ := row_at H.out.es hes
        cases hA1
        obtain ⟨A1, z1, rfl, hz1, hz2, _⟩ := hrow
        unfold maxLen at hz2
        have q5 := have_cell hc1
        have Hle : Hid (lenE n k = es.length) := by show _ = _; unfold lenE; simp [hes]
        have m3 : IntKind.i64.wrap ((k : Int) + 1) = (k : Int) + 1 := wr64 _ (by omega) (by omega)
        have Hk := Lib.hid (And.intro hk hlt)
        have hk2 := hlt
        clear hes hc1 hk
        go_wp2
        go_loopw [6, 32] (fun u i wr => ∃ j : Nat, j ≤ es.length ∧ i = .int .i64 j ∧ OwnR wr w0.heap.size wr.heap.size u (crossTo n ls k ++ cross2 n ls k j) ∧ Since w0 wr) (fun _ i _ => es.length - (intOf i).toNat)
        case atStart => exact ⟨0, Nat.zero_le _, rfl, by simpa [cross2] using Ho.out, hsr⟩
        case round =>
          obtain ⟨j, hj, rfl, ho, hsr2⟩ := hrel
          have Ho2 := Lib.hid ho
          clear hsr ho
          by_cases hlt2 : j < es.length
          · have Hj := Lib.hid (And.intro hj hlt2)
            obtain ⟨L0, hL0⟩ : ∃ L0, L0 = crossTo n ls k ++ cross2 n ls k j := ⟨_, rfl⟩
            rw [← hL0] at Ho2
            have HL0l : Hid (L0.length ≤ 10000) := by
              show _ ≤ _
              rw [hL0, List.length_append]
              have h1 := HCL.out k
              have h2 := cross2_len n ls k j
              have h3 := HLE.out k
              have h4 := Hle.out
              have h5 : j * n.ends.length ≤ 6 * 40 := Nat.mul_le_mul (by omega) (by omega)
              omega
            have Hnx : Hid (crossTo n ls k ++ cross2 n ls k (j + 1) = L0 ++ cross3 n ls k j (n.ends.length - (k + 1))) := by show _ = _; rw [cross2_succ, hL0, List.append_assoc]
            clear hL0 hj
            go_wp2
            go_loopw [6, 10] (fun u i wr => ∃ x : Nat, k + 1 ≤ x ∧ x ≤ n.ends.length ∧ i = .int .i64 x ∧ OwnR wr w0.heap.size wr.heap.size u (L0 ++ cross3 n ls k j (x - (k + 1))) ∧ Since w0 wr) (fun _ i _ => n.ends.length - (intOf i).toNat)
            case atStart => exact ⟨k + 1, Nat.le_refl _, by omega, by go_num, by simpa [cross3] using Ho2.out, hsr2⟩
            case round =>
              obtain ⟨x, hx1, hx2, rfl, ho, hsr3⟩ := hrel
              have Ho3 := Lib.hid ho
              clear hsr2 ho
              by_cases hlt3 : x < n.ends.length
              · obtain ⟨ew, hew⟩ := getx n.ends x hlt3
                obtain ⟨b2, offr2, cr2, ur2, hA2, hkr2, hc2, hrow2⟩ := row_at H.out.es hew
                cases hA2
                obtain ⟨A2', z2', rfl, hz3, hz4, _⟩ := hrow2
                unfold maxLen at hz4
                have q6 := lift_cell (have_cell hc2) hsr3
                have q00 := lift_cell p00 hsr3
                have q01 := lift_cell p01 hsr3
                have q02 := lift_cell p02 hsr3
                have Hlw : Hid (lenE n x = ew.length) := by show _ = _; unfold lenE; simp [hew]
                have m4 : IntKind.i64.wrap ((x : Int) + 1) = (x : Int) + 1 := wr64 _ (by omega) (by omega)
                obtain ⟨LL, hLL⟩ : ∃ LL, LL = L0 ++ cross3 n ls k j (x - (k + 1)) := ⟨_, rfl⟩
                rw [← hLL] at Ho3
                have hLl : LL.length + 1 ≤ 1000000 := by
                  rw [hLL, List.length_append]
                  have h1 := HL0l.out
                  have h2 := cross3_len n ls k j (x - (k + 1))
                  omega
                obtain ⟨zb, hzb⟩ : ∃ zb, zb = (decide (j < ew.length) && hidB n.ends ls ((k : Int), (j : Int)) ((x : Int), (j : Int))) := ⟨_, rfl⟩
                have Hn3 : Hid (L0 ++ cross3 n ls k j (x + 1 - (k + 1)) = LL ++ if zb then [((k : Int), (j : Int), (x : Int), (j : Int))] else []) := by
                  show _ = _
                  rw [show x + 1 - (k + 1) = (x - (k + 1)) + 1 by omega, cross3_succ, hLL, List.append_assoc, show k + 1 + (x - (k + 1)) = x by omega, Hlw.out, hzb]
                  rfl
                have Hzb := Lib.hid hzb
                have Hpa : Hid (hasPortB n.ends (k : Int) (j : Int) = true) := port_has hk2 (by rw [Hle.out]; exact Hj.out.2)
                have Hpb : Hid ((j : Int) < (ew.length : Int) → hasPortB n.ends (x : Int) (j : Int) = true) := fun hh => port_has hlt3 (by rw [Hlw.out]; omega)
                have HSr := Lib.hid hsr3
                have hww : Since wr wr := since_refl _
                clear hew hc2 hLL hzb hsr3
                go_upto_region 13 with (fail)
                refine wp_region_flow0 17 (Since wr) (hww) ?_
                simp only [List.take_succ_cons, List.take_zero, List.drop_succ_cons, List.drop_zero]
                refine flow_val (v := ?_) rfl ?_ ?_; rotate_left; (intro W hW; go_simp; with_reducible rfl)
                simp only [Act.put, List.setIfInBounds_toArray, List.set_cons_succ, List.set_cons_zero]
                refine flow_val (v := ?_) rfl ?_ ?_; rotate_left; (intro W hW; go_simp; with_reducible rfl)
                simp only [Act.put, List.setIfInBounds_toArray, List.set_cons_succ, List.set_cons_zero]
                refine flow_val (v := ?_) rfl ?_ ?_; rotate_left; (intro W hW; go_simp; with_reducible rfl)
                simp only [Act.put, List.setIfInBounds_toArray, List.set_cons_succ, List.set_cons_zero]
                refine flow_val (v := ?_) rfl ?_ ?_; rotate_left; (intro W hW; go_simp; with_reducible rfl)
                simp only [Act.put, List.setIfInBounds_toArray, List.set_cons_succ, List.set_cons_zero]
                refine flow_val (v := ?_) rfl ?_ ?_; rotate_left; (intro W hW; go_simp; with_reducible rfl)
                simp only [Act.put, List.setIfInBounds_toArray, List.set_cons_succ, List.set_cons_zero]
                refine flow_val (v := ?_) rfl ?_ ?_; rotate_left; (intro W hW; go_simp; with_reducible rfl)
                simp only [Act.put, List.setIfInBounds_toArray, List.set_cons_succ, List.set_cons_zero]
                refine flow_val (v := ?_) rfl ?_ ?_; rotate_left; (intro W hW; go_simp; with_reducible rfl)
                simp only [Act.put, List.setIfInBounds_toArray, List.set_cons_succ, List.set_cons_zero]
                refine flow_val (v := ?_) rfl ?_ ?_; rotate_left; (intro W hW; go_simp; with_reducible rfl)
                simp only [Act.put, List.setIfInBounds_toArray, List.set_cons_succ, List.set_cons_zero]
                refine flow_val (v := ?_) rfl ?_ ?_; rotate_left; (intro W hW; go_simp; with_reducible rfl)
                simp only [Act.put, List.setIfInBounds_toArray, List.set_cons_succ, List.set_cons_zero]
                refine flow_gval (v := ?_) rfl rfl ?_ ?_; rotate_left; (intro hb; intro W hW; go_simp; with_reducible rfl)
                simp only [Act.put, List.setIfInBounds_toArray, List.set_cons_succ, List.set_cons_zero]
                refine flow_gval (v := ?_) rfl rfl ?_ ?_; rotate_left; (intro hb; intro W hW; go_simp; with_reducible rfl)
                simp only [Act.put, List.setIfInBounds_toArray, List.set_cons_succ, List.set_cons_zero]
                refine flow_gval (v := ?_) rfl rfl ?_ ?_; rotate_left; (intro hb; intro W hW; go_simp; with_reducible rfl)
                simp only [Act.put, List.setIfInBounds_toArray, List.set_cons_succ, List.set_cons_zero]
                refine flow_gval (v := ?_) rfl rfl ?_ ?_; rotate_left; (intro hb; intro W hW; go_simp; with_reducible rfl)
                simp only [Act.put, List.setIfInBounds_toArray, List.set_cons_succ, List.set_cons_zero]
                refine flow_gval (v := ?_) rfl rfl ?_ ?_; rotate_left; (intro hb; intro W hW; go_simp; with_reducible rfl)
                simp only [Act.put, List.setIfInBounds_toArray, List.set_cons_succ, List.set_cons_zero]
                refine flow_gval (v := ?_) rfl rfl ?_ ?_; rotate_left; (intro hb; intro W hW; go_simp; with_reducible rfl)
                simp only [Act.put, List.setIfInBounds_toArray, List.set_cons_succ, List.set_cons_zero]
                refine flow_gop (v := ?_) rfl rfl ?_ ?_; rotate_left; (intro hb; intro W hW; unfold Gives; go_simp; (with_reducible refine (atHidden_any _ _ _ _ n ls (k : Int) (j : Int) (x : Int) (j : Int) W (H.out.keep (HSr.out.after hW).below) (HL.out.keep (HSr.out.after hW).below) Hn.out Hll.out Hpa.out (Hpb.out (by simpa using hb))).mono ?_); rintro e W' ⟨rfl, hb3⟩; first | (refine ⟨?_, Since.trans hW hb3⟩; with_reducible rfl) | (subst hb3; refine ⟨?_, hW⟩; with_reducible rfl))
                simp only [Act.put, List.setIfInBounds_toArray, List.set_cons_succ, List.set_cons_zero]
                first | refine flow_and rfl rfl ?_ | (refine flow_val (v := ?_) rfl ?_ ?_; rotate_left; (intro W hW; go_simp; with_reducible rfl))
                simp only [Act.put, List.setIfInBounds_toArray, List.set_cons_succ, List.set_cons_zero]
                intro w6 hW6
                have hs6 := HSr.out.after hW6
                have Ho6 := Lib.hid (Ho3.out.keep hW6)
                have Hsz6 := Lib.hid hW6.below.size
                clear q00 q01 q02 q6 hww hW6
                cases hc : (decide (j < ew.length) && hidB n.ends ls ((k : Int), (j : Int)) ((x : Int), (j : Int)))
                · have Hn4 : Hid (L0 ++ cross3 n ls k j (x + 1 - (k + 1)) = LL) := by show _ = _; rw [Hn3.out, Hzb.out, hc]; simp
                  clear hc
                  go_wp2
                  go_roundw
                  case rel => exact ⟨x + 1, by omega, by omega, by go_num, by rw [Hn4.out]; exact Ho6.out.up Hsz6.out, hs6⟩
                  case measure => simp [intOf]; omega
                · have Hn4 : Hid (L0 ++ cross3 n ls k j (x + 1 - (k + 1)) = LL ++ [((k : Int), (j : Int), (x : Int), (j : Int))]) := by show _ = _; rw [Hn3.out, Hzb.out, hc]; simp
                  clear hc
                  obtain ⟨w8, hw8⟩ : ∃ w8, w8 = (w6.alloc (fourR ((k : Int), (j : Int), (x : Int), (j : Int)))).alloc (.cells #[rowR w6.heap.size] 23) := ⟨_, rfl⟩
                  have hs8 : Since w0 w8 := by rw [hw8]; exact since_alloc _ (since_alloc _ hs6)
                  have Ho8 : Hid (OwnR w8 w0.heap.size w6.heap.size u6 LL) := by show OwnR _ _ _ _ _; rw [hw8]; exact (Ho6.out.up Hsz6.out).keep (since_alloc _ (since_alloc _ (since_refl _)))
                  have c8 : w8.cell? ⟨w6.heap.size + 1, 0, none⟩ = some (rowR w6.heap.size) := by rw [hw8]; simp
                  have r8 : w8.heap[w6.heap.size]? = some (fourR ((k : Int), (j : Int), (x : Int), (j : Int))) := by
                    have h1 : (w6.alloc (fourR ((k : Int), (j : Int), (x : Int), (j : Int)))).heap[w6.heap.size]? = some (fourR ((k : Int), (j : Int), (x : Int), (j : Int))) := heap_alloc_new w6 _
                    have h2 : Since (w6.alloc (fourR ((k : Int), (j : Int), (x : Int), (j : Int)))) w8 := by rw [hw8]; exact since_alloc _ (since_refl _)
                    rw [h2.below.block _ (Array.getElem?_eq_some_iff.1 h1).1]; exact h1
                  have n8 : u6.ownBlock ≠ some w6.heap.size := fun e => by
                    have := (Ho6.out.lt e).2
                    omega
                  have Hc8 := Lib.hid (And.intro c8 (And.intro r8 n8))
                  have Hs8 := Lib.hid hs8
                  have g6 : w0.heap.size ≤ w6.heap.size := (Since.below hs6).size
                  have Hw8 := Lib.hid hw8
                  simp only [fourR, rowR] at hw8
                  clear hs8 c8 r8 n8
                  go_wp2_with (at_builtin; rw [← hw8]; refine app_rowR rfl _ _ rfl rfl Ho8.out (w6.heap.size + 1) w6.heap.size ((k : Int), (j : Int), (x : Int), (j : Int)) rfl Hc8.out.1 g6 (Nat.le_refl _) Hc8.out.2.1 Hc8.out.2.2 hLl Hs8.out ?_; intro g9 cc9 w9 ho9 hs9)
                  have Ho9 := Lib.hid ho9
                  have Hs9 := Lib.hid hs9
                  clear ho9 hs9 hs6 hw8
                  go_wp2
                  go_roundw
                  case rel => exact ⟨x + 1, by omega, by omega, by go_num, by rw [Hn4.out]; first | exact Ho9.out | (simpa using Ho9.out), Hs9.out⟩
                  case measure => simp [intOf]; omega
              · obtain rfl : x = n.ends.length := by omega
                clear hlt3
                go_wp2
                go_roundw
                case rel => exact ⟨j + 1, by have := Hj.out; omega, by go_num, by rw [Hnx.out]; exact Ho3.out, hsr3⟩
                case measure => simp [intOf]; have := Hj.out; omega
          · obtain rfl : j = es.length := by omega
            have Hnx : Hid (crossTo n ls (k + 1) = crossTo n ls k ++ cross2 n ls k es.length) := by show _ = _; rw [crossTo_succ, Hle.out]
            clear hlt2 hj
            go_wp2
            go_roundw
            case rel => exact ⟨k + 1, by omega, by go_num, by rw [Hnx.out]; exact Ho2.out, hsr2⟩
            case measure => simp [intOf]; omega
      · obtain rfl : k = n.ends.length := by omega
        have HS := Lib.hid hsr
        clear hsr hlt hk
        go_wp2
        go_ret2
        exact ⟨u6, cx_tup Hok.out u6, by
          unfold fnExactCrossingsOf_d
          rw [if_pos Hok.out]
          obtain ⟨S, hS⟩ := Ho.out.toII (Nat.le_refl _)
          exact OwnII.read hS, Since.after Hb0.out HS.out⟩
  · have Hbad := Lib.hid (cx_bad hg)
    have HW1 := Lib.hid hW1
    clear hW1 hg
    go_wp2
    go_ret2
    exact ⟨.slice none 0 0, cx_tupF Hbad.out _, by
      unfold fnExactCrossingsOf_d
      rw [if_neg (by rw [Hbad.out]; simp)]
      exact ⟨none, 0, rfl, Nat.le_refl _, Nat.zero_le _, fun k e hk => by simp at hk⟩, Since.after Hb0.out HW1.out⟩
end Go.Proofs.Ythgbobikbdklhaa
