/- Parts of the proof: walks of functions and plain laws. -/
import Derived.Test.YtfkmkpamdlhbgaaGreatP13
import Derived.Test.YtfkmkpamdlhbgaaGreatP11
import Derived.Test.YtfkmkpamdlhbgaaGreatP9
import Derived.Test.YtfkmkpamdlhbgaaGreatP5
import Derived.Test.YtfkmkpamdlhbgaaGreatP8
import Derived.ArgAppend
namespace Go.Proofs.YtfkmkpamdlhbgaaGreat
open Go.RowKit
set_option maxRecDepth 100000 in
set_option maxHeartbeats 8000000 in
theorem plThree_any (ve vi vn : Value) (n : Net) (w : World) (h : NetIn w ve vi vn n) (hn : netOk n = true) :
    Calls Tryz.prog 85 #[.agg #[ve, vi, vn]] w fun e w' => ∃ U, e = .returned (.tuple #[U, .bool (tcHas (tcAll n)), .bool (tcAll n).isSome]) ∧ (∀ l, tcAll n = some (some l) → Own w' w.heap.size U l) ∧ Below w.heap.size w w' := by
  have hn40 := netOk_len hn
  have hn1 := hn40.1
  have hn2 := hn40.2
  clear hn40
  have HRow : Hid (∀ (k : Nat) (es : List (Int × Int)), n.ends[k]? = some es → es.length ≤ 6 ∧ ∀ e ∈ es, 0 ≤ e.1 ∧ e.1 < n.ends.length) := fun (k : Nat) (es : List (Int × Int)) he => netOk_row hn he
  clear hn
  obtain ⟨R, hR⟩ : ∃ R, R = tcAll n := ⟨_, rfl⟩
  rw [← hR]
  have HR := Lib.hid hR
  clear hR
  obtain ⟨w0, hw0⟩ : ∃ w0, w0 = (w).alloc (.cells #[ve, vi, vn] 27) := ⟨_, rfl⟩
  have hb0 : Below w.heap.size w w0 := by rw [hw0]; exact ((Below.refl _ _).alloc (by simp) _)
  have H := Lib.hid (h.keep hb0)
  obtain ⟨h1, h2, h3⟩ := h.keep hb0
  obtain ⟨A, c, rfl, hlc, hm, hA⟩ := h1
  obtain ⟨A2, c2, rfl, _, hm2, _⟩ := h2
  obtain ⟨A3, c3, rfl, _, hm3, _⟩ := h3
  unfold maxLen at hm hm2 hm3
  have p00 : ∀ W, Since w0 W → W.cell? ⟨w.heap.size, 0, none⟩ = some (.slice A n.ends.length c) := have_cell (by rw [hw0]; simp)
  have p01 : ∀ W, Since w0 W → W.cell? ⟨w.heap.size, 1, none⟩ = some (.slice A2 n.ids.length c2) := have_cell (by rw [hw0]; simp)
  have p02 : ∀ W, Since w0 W → W.cell? ⟨w.heap.size, 2, none⟩ = some (.slice A3 n.inputs.length c3) := have_cell (by rw [hw0]; simp)
  have Hb0 := Lib.hid hb0
  have Hw0 := Lib.hid hw0
  have HA := Lib.hid hA
  clear hA h
  clear hb0 hw0
  obtain ⟨cA, hcA⟩ : ∃ x, x = c := ⟨_, rfl⟩
  subst hcA
  have hs0 : Since w0 w0 := since_refl _
  go_enter Tryz.func85, Tryz.ntmps85
  go_upto_region 1 with (fail)
  rw [← Hw0.out]
  go_wp2_with (at_make; refine mk_ints _ rfl _ _ rfl _ _ n.ends.length rfl rfl rfl rfl (by omega) ?_; intro w1 ho1 hb1 hz1)
  obtain ⟨g, hg⟩ : ∃ g, g = w0.heap.size := ⟨_, rfl⟩
  rw [← hg] at ho1 hz1 ⊢
  have Hg := Lib.hid hg
  clear hg hz1
  go_wp2
  go_loopw [15] (fun i wr => ∃ k : Nat, k ≤ n.ends.length ∧ i = .int .i64 k ∧ Own wr w0.heap.size (.slice (some ⟨g, 0, none⟩) n.ends.length n.ends.length) (List.replicate k (-1) ++ List.replicate (n.ends.length - k) 0) ∧ Since w0 wr) (fun i _ => n.ends.length - (intOf i).toNat)
  case atStart => exact ⟨0, Nat.zero_le _, rfl, by have := ho1; simpa [Hg.out] using this, hb1⟩
  case round =>
    obtain ⟨k, hk, rfl, ho, hs⟩ := hrel
    have Ho := Lib.hid ho
    have Hs := Lib.hid hs
    clear ho1 hb1 ho hs hs0
    by_cases hlt : k < n.ends.length
    · obtain ⟨y, hy⟩ := getx (List.replicate k (-1 : Int) ++ List.replicate (n.ends.length - k) 0) k (by simp; omega)
      have cz := Ho.out.cell hy
      have fz := Ho.out.free k
      clear hy
      go_wp2
      go_roundw
      case rel =>
        refine ⟨k + 1, by omega, by go_num, ?_, Below.setCell Hs.out (by show w0.heap.size ≤ g; rw [Hg.out]; exact Nat.le_refl _) _⟩
        have := Ho.out.set (k := k) (-1)
        have e : (List.replicate k (-1 : Int) ++ List.replicate (n.ends.length - k) 0).set k (-1) = List.replicate (k + 1) (-1) ++ List.replicate (n.ends.length - (k + 1)) 0 := by
          rw [List.set_append_right _ _ (by simp), List.length_replicate, Nat.sub_self, show n.ends.length - k = (n.ends.length - (k + 1)) + 1 by omega, List.replicate_succ, List.set_cons_zero, List.replicate_succ', List.append_assoc]
          rfl
        rwa [e] at this
      case measure => simp [intOf]; omega
    · obtain rfl : k = n.ends.length := by omega
      have Ho2 : Hid (Own wr w0.heap.size (.slice (some ⟨g, 0, none⟩) n.ends.length n.ends.length) (List.replicate n.ends.length (-1))) := by
        have := Ho.out
        rwa [Nat.sub_self, List.replicate_zero, List.append_nil] at this
      have Hgr : Hid (w0.heap.size ≤ g) := by rw [Hg.out]; exact Nat.le_refl _
      clear hk hlt
      obtain ⟨wS, hwS⟩ : ∃ wS, wS = wr := ⟨_, rfl⟩
      rw [← hwS] at Ho2 Hs ⊢
      clear hwS Ho
      go_wp2
      go_loopw [7, 8] (fun us uv wr => ∃ (l : List Int) (v : Int) (s f : Nat), us = .int .i64 (s : Int) ∧ uv = .int .i64 v ∧ Own wr w0.heap.size (.slice (some ⟨g, 0, none⟩) n.ends.length n.ends.length) l ∧ TcSt n l v s f ∧ tcRun n f l v s = R ∧ Since w0 wr) (fun us uv _ => tcMu (intOf uv) (intOf us).toNat)
      case atStart => exact ⟨_, 0, 0, 400002, rfl, rfl, Ho2.out, tc_start, HR.out.symm, Hs.out⟩
      case round =>
        obtain ⟨l, v, s, f, rfl, rfl, ho, hst, hrun, hsr⟩ := hrel
        have Ho := Lib.hid ho
        have Hst := Lib.hid hst
        have Hrun := Lib.hid hrun
        have hlen := hst.len
        have hlo := hst.lo
        have hhi := hst.hi
        have hss := hst.st
        clear ho hrun hst
        by_cases hv : (n.ends.length : Int) ≤ v
        · have hr : Hid (R = some (some l)) := by show _ = _; rw [← Hrun.out]; exact tc_done Hst.out hv
          have HS := Lib.hid hsr
          obtain rfl : v = (n.ends.length : Int) := by omega
          clear hsr hv hlo hhi hss
          go_wp2
          first | go_ret3 | fail
          exact ⟨_, by rw [hr.out]; rfl, by intro l' hl'; rw [hr.out] at hl'; cases hl'; exact Ho.out.mono Hb0.out.size, Since.after Hb0.out HS.out⟩
        · by_cases hv0 : v < 0
          · have hr : Hid (R = some none) := by show _ = _; rw [← Hrun.out]; exact tc_none Hst.out (by omega) hv0
            have HS := Lib.hid hsr
            have hvl : v < (n.ends.length : Int) := by omega
            clear hsr hv hlo hhi hss
            go_wp2
            first | go_ret3 | fail
            exact ⟨_, by rw [hr.out]; rfl, fun l' hl' => by (rw [hr.out] at hl'; cases hl'), Since.after Hb0.out HS.out⟩
          · obtain ⟨k, rfl⟩ := Int.eq_ofNat_of_zero_le (show 0 ≤ v by omega)
            have hk : k < n.ends.length := by omega
            obtain ⟨x, hx⟩ := getx l k (by omega)
            have hxr := Hst.out.rng x (List.mem_of_getElem? hx)
            obtain ⟨f', rfl⟩ := tc_fuel Hst.out
            have cz := Ho.out.cell hx
            have fz := Ho.out.free k
            have Hx := Lib.hid hx
            have m1 : IntKind.i64.wrap ((k : Int) - 1) = (k : Int) - 1 := wr64 _ (by omega) (by omega)
            have m2 : IntKind.i64.wrap (x + 1) = x + 1 := wr64 _ (by omega) (by omega)
            have m3 : IntKind.i64.wrap ((s : Int) + 1) = (s : Int) + 1 := wr64 _ (by omega) (by omega)
            have m4 : IntKind.i64.wrap ((k : Int) + 1) = (k : Int) + 1 := wr64 _ (by omega) (by omega)
            clear hx hv hv0 hlo hhi
            by_cases h2 : x = 2
            · subst h2
              have Hb := Lib.hid (tc_back Hst.out hk Hx.out)
              clear m2 m3 m4 hxr
              go_wp2
              go_roundw
              case rel => exact ⟨l.set k (-1), (k : Int) - 1, s, f', rfl, by first | rfl | go_num, Ho.out.set (k := k) (-1), Hb.out.2, by rw [← Hb.out.1]; exact Hrun.out, hsr.setCell Hgr.out _⟩
              case measure => (simp [intOf, tcMu]; try omega)
            · have h2' : (x = 2) = False := by simp [h2]
              have h2b : (x == 2) = false := by simp [h2]
              by_cases hs : s = 200000
              · have hr : Hid (R = none) := by show _ = _; rw [← Hrun.out]; subst hs; exact tc_stop Hst.out hk Hx.out h2
                have HS := Lib.hid hsr
                have hs1 : ((s : Int) = 200000) = True := by simp; omega
                have hs2 : (s = 200000) = True := by simp [hs]
                have hs3 : ((s : Int) == 200000) = true := by simp; omega
                clear hsr m1 m2 m3 m4 hxr h2 hs hss
                go_wp2
                first | go_ret3 | fail
                exact ⟨_, by rw [hr.out]; rfl, fun l' hl' => by (rw [hr.out] at hl'; cases hl'), Since.after Hb0.out HS.out⟩
              · have hs' : ((s : Int) = 200000) = False := by simp; omega
                have hs2 : (s = 200000) = False := by simp [hs]
                have hs3 : ((s : Int) == 200000) = false := by simp; omega
                have Hg := Lib.hid (tc_go Hst.out hk Hx.out h2 hs)
                have Hs := Lib.hid hs
                clear h2 hs hxr
                obtain ⟨es, hes⟩ := getx n.ends k hk
                obtain ⟨r1, r2⟩ := HRow.out k es hes
                have Hes := Lib.hid hes
                have Hr1 := Lib.hid r1
                have Hr2 := Lib.hid r2
                clear hes r1 r2
                go_upto_region 19 with (fail)
                obtain ⟨l2, hl2⟩ : ∃ l2, l2 = l.set k (x + 1) := ⟨_, rfl⟩
                rw [← hl2] at Hg
                obtain ⟨W0, hW0⟩ : ∃ W0, W0 = wr.setCell ⟨g, k, none⟩ (.int .i64 (x + 1)) := ⟨_, rfl⟩
                rw [← hW0]
                have Ho2 : Hid (Own W0 w0.heap.size (.slice (some ⟨g, 0, none⟩) n.ends.length n.ends.length) l2) := by show Own _ _ _ _; rw [hW0, hl2]; exact Ho.out.set (k := k) (x + 1)
                have hl2l : l2.length = n.ends.length := by rw [hl2, List.length_set]; exact hlen
                have hx2 : l2[k]? = some (x + 1) := by rw [hl2, List.getElem?_set_self (by omega)]
                have HS0 : Hid (Since w0 W0) := by show Since _ _; rw [hW0]; exact hsr.setCell Hgr.out _
                have qz2 := have_cell (Ho2.out.cell hx2)
                have HIl := Lib.hid (show ∀ X, Since W0 X → IntS X (.slice (some ⟨g, 0, none⟩) n.ends.length n.ends.length) l2 from fun X hX => by have := (Own.since Ho2.out hX).ints; exact this)
                have t0 := lift_cell p00 HS0.out
                have t1 := lift_cell p01 HS0.out
                have t2 := lift_cell p02 HS0.out
                have hz : Since W0 W0 := since_refl _
                have Hl2l := Lib.hid hl2l
                have Hx2 := Lib.hid hx2
                have Hgd := Lib.hid (show tcGood n l2 k = !(hasB (nearB l2 es) (x + 1)) by unfold tcGood hasB; rw [getD_of Hes.out, getD_of hx2])
                have HP := Lib.hid (And.intro p00 (And.intro p01 p02))
                clear hW0 hl2 hl2l hx2 hsr cz fz p00 p01 p02
                have Hzz := Lib.hid (sameC_zero l2 (x + 1) es)
                have hle := sameC_le l2 (x + 1) (es.map (·.1))
                rw [List.length_map] at hle
                have Hle := Lib.hid hle
                obtain ⟨ct, hct⟩ : ∃ ct, ct = sameC l2 (x + 1) (es.map (·.1)) := ⟨_, rfl⟩
                rw [← hct] at Hzz Hle
                have Hct := Lib.hid hct
                have HRS : Hid (∀ W, Since W0 W → Calls Tryz.prog 135 #[.agg #[.slice A n.ends.length cA, .slice A2 n.ids.length c2, .slice A3 n.inputs.length c3], .slice (some ⟨g, 0, none⟩) n.ends.length n.ends.length, .int .i64 k, .int .i64 (x + 1)] W fun e w' => e = .returned (.int .i64 ct) ∧ Below W.heap.size W w') := by
                  intro W hW
                  have := ruSame_any _ _ _ _ n l2 k (x + 1) es W (H.out.keep (HS0.out.after hW).below) (HIl.out W hW) Hes.out (by have := Hr1.out; omega) (by rw [Hl2l.out]; exact Hr2.out)
                  rw [← hct] at this
                  exact this
                clear hle hct
                refine wp_region_flow 9 (Since W0) (by kernel_rfl) (by kernel_rfl) (by simp) (since_drew (since_refl _)) ?_
                simp only [List.take_succ_cons, List.take_zero, List.drop_succ_cons, List.drop_zero]
                refine flow_val (v := ?_) rfl ?_ ?_; rotate_left; (intro W hW; go_simp; with_reducible rfl)
                simp only [Act.put, List.setIfInBounds_toArray, List.set_cons_succ, List.set_cons_zero]
                refine flow_val (v := ?_) rfl ?_ ?_; rotate_left; (intro W hW; go_simp; with_reducible rfl)
                simp only [Act.put, List.setIfInBounds_toArray, List.set_cons_succ, List.set_cons_zero]
                refine flow_val (v := ?_) rfl ?_ ?_; rotate_left; (intro W hW; go_simp; with_reducible rfl)
                simp only [Act.put, List.setIfInBounds_toArray, List.set_cons_succ, List.set_cons_zero]
                refine flow_val (v := ?_) rfl ?_ ?_; rotate_left; (intro W hW; go_simp; with_reducible rfl)
                simp only [Act.put, List.setIfInBounds_toArray, List.set_cons_succ, List.set_cons_zero]
                refine flow_val (v := ?_) rfl ?_ ?_; rotate_left; (intro W hW; go_simp; with_reducible rfl)
                simp only [Act.put, List.setIfInBounds_toArray, List.set_cons_succ, List.set_cons_zero]
                refine flow_val (v := ?_) rfl ?_ ?_; rotate_left; (intro W hW; go_simp; with_reducible rfl)
                simp only [Act.put, List.setIfInBounds_toArray, List.set_cons_succ, List.set_cons_zero]
                refine flow_val (v := ?_) rfl ?_ ?_; rotate_left; (intro W hW; go_simp; with_reducible rfl)
                simp only [Act.put, List.setIfInBounds_toArray, List.set_cons_succ, List.set_cons_zero]
                refine flow_op ?_ rfl ?_ ?_; rotate_left; (intro W hW; unfold Gives; go_simp; (with_reducible refine (HRS.out W hW).mono ?_); rintro e W' ⟨rfl, hb3⟩; first | (refine ⟨?_, Since.trans hW hb3⟩; with_reducible rfl) | (subst hb3; refine ⟨?_, hW⟩; with_reducible rfl))
                simp only [Act.put, List.setIfInBounds_toArray, List.set_cons_succ, List.set_cons_zero]
                refine flow_val (v := ?_) rfl ?_ ?_; rotate_left; (intro W hW; go_simp; with_reducible rfl)
                simp only [Act.put, List.setIfInBounds_toArray, List.set_cons_succ, List.set_cons_zero]
                intro W' hW
                have Ho3 := Lib.hid (Own.since Ho2.out hW)
                have HS3 := Lib.hid (HS0.out.after hW)
                obtain ⟨p00, p01, p02⟩ := HP.out
                by_cases hb : ct = 0
                · have hgt : tcGood n l2 k = true := by rw [Hgd.out, Hzz.out.1 hb]; rfl
                  rw [hgt] at Hg
                  have e1 : ((ct : Int) == 0) = true := by simp [hb]
                  have e2 : ((ct : Int) = 0) = True := by simp [hb]
                  have e3 : (ct = 0) = True := by simp [hb]
                  clear hW hz t0 t1 t2 qz2 hb m1 m2 m3
                  go_wp2
                  go_roundw
                  case rel => exact ⟨l2, (k : Int) + 1, s + 1, f', by go_num, by first | rfl | go_num, Ho3.out, by have := Hg.out.2; simpa using this, by have := Hg.out.1; simp at this; rw [← this]; exact Hrun.out, HS3.out⟩
                  case measure => (have := Hs.out; have := Hst.out.st; simp [intOf, tcMu]; try omega)
                · have hgt : tcGood n l2 k = false := by
                    rw [Hgd.out]
                    cases hq : hasB (nearB l2 es) (x + 1)
                    · exact absurd (Hzz.out.2 hq) hb
                    · rfl
                  rw [hgt] at Hg
                  have e1 : ((ct : Int) == 0) = false := by simp [hb]
                  have e2 : ((ct : Int) = 0) = False := by simp [hb]
                  have e3 : (ct = 0) = False := by simp [hb]
                  clear hW hz t0 t1 t2 qz2 hb m1 m2 m3
                  go_wp2
                  go_roundw
                  case rel => exact ⟨l2, (k : Int), s + 1, f', by go_num, by first | rfl | go_num, Ho3.out, by have := Hg.out.2; simpa using this, by have := Hg.out.1; simp at this; rw [← this]; exact Hrun.out, HS3.out⟩
                  case measure => (have := Hs.out; have := Hst.out.st; simp [intOf, tcMu]; try omega)
end Go.Proofs.YtfkmkpamdlhbgaaGreat
namespace Go.Proofs.YtfkmkpamdlhbgaaGreat
open Go.RowKit
/-! plProve -/
theorem map_snoc {f : Nat → Int} (k : Nat) : (List.range (k + 1)).map f = (List.range k).map f ++ [f k] := by rw [List.range_succ, List.map_append]; rfl
theorem ids_cell {n : Net} {w : World} {v : Value} (h : IntS w v n.ids) {r : Nat} (hr : r < n.ids.length) : ∃ b off c, v = .slice (some ⟨b, off, none⟩) n.ids.length c ∧ ∀ W, Since w W → W.cell? ⟨b, off + r, none⟩ = some (.int .i64 (n.ids.getD r 0)) := by
  obtain ⟨A', c', e, _, _, hA⟩ := h
  obtain ⟨b, off, e', hc⟩ := hA r (n.ids.getD r 0) (by rw [List.getD_eq_getElem?_getD, List.getElem?_eq_getElem hr]; rfl)
  subst e'
  exact ⟨b, off, c', e, fun W hW => have_cell hc W hW⟩
theorem roots_cell {N : Nat} {w : World} {A : Option Addr} {c : Nat} {xs : List Int} (h : IntS w (.slice A N c) xs) (hl : xs.length = N) (h0 : 0 < N) : ∃ b off, A = some ⟨b, off, none⟩ ∧ ∀ k x, xs[k]? = some x → ∀ W, Since w W → W.cell? ⟨b, off + k, none⟩ = some (.int .i64 x) := by
  obtain ⟨A', c', e, _, _, hA⟩ := h
  rw [hl] at e
  cases e
  obtain ⟨b, off, e, -⟩ := hA 0 xs[0] (List.getElem?_eq_getElem (by omega))
  refine ⟨b, off, e, fun k x hx W hW => ?_⟩
  obtain ⟨b', off', e', hc⟩ := hA k x hx
  rw [e] at e'
  cases e'
  exact have_cell hc W hW
set_option maxRecDepth 100000 in
set_option maxHeartbeats 1600000 in
theorem plProve3 (ve vi vn : Value) (n : Net) (w : World) (h : NetIn w ve vi vn n) (hn : netOk n = true) :
    Calls Tryz.prog 45 #[.agg #[ve, vi, vn], .int .i64 3] w fun e w' => ∃ u, e = .returned u ∧ Own w' w.heap.size u ((List.range n.ends.length).map (depB n)) ∧ Below w.heap.size w w' := by
  have hnl := netOk_len hn
  have hn1 := hnl.1
  have hn2 := hnl.2
  have Hn := Lib.hid hn
  clear hnl hn
  obtain ⟨w0, hw0⟩ : ∃ w0, w0 = (w).alloc (.cells #[ve, vi, vn] 27) := ⟨_, rfl⟩
  have hb0 : Below w.heap.size w w0 := by rw [hw0]; exact ((Below.refl _ _).alloc (by simp) _)
  have H := Lib.hid (h.keep hb0)
  obtain ⟨h1, h2, h3⟩ := h.keep hb0
  obtain ⟨A, c, rfl, hlc, hm, hA⟩ := h1
  obtain ⟨A2, c2, rfl, _, hm2, _⟩ := h2
  obtain ⟨A3, c3, rfl, _, hm3, _⟩ := h3
  unfold maxLen at hm hm2 hm3
  have p00 : ∀ W, Since w0 W → W.cell? ⟨w.heap.size, 0, none⟩ = some (.slice A n.ends.length c) := have_cell (by rw [hw0]; simp)
  have p01 : ∀ W, Since w0 W → W.cell? ⟨w.heap.size, 1, none⟩ = some (.slice A2 n.ids.length c2) := have_cell (by rw [hw0]; simp)
  have p02 : ∀ W, Since w0 W → W.cell? ⟨w.heap.size, 2, none⟩ = some (.slice A3 n.inputs.length c3) := have_cell (by rw [hw0]; simp)
  have Hb0 := Lib.hid hb0
  have Hw0 := Lib.hid hw0
  have HA := Lib.hid hA
  clear hA h
  clear hb0 hw0
  go_enter Tryz.func45, Tryz.ntmps45
  go_upto_region 1 with (fail)
  rw [← Hw0.out]
  have hs0 : Since w0 w0 := since_refl _
  go_wp2_with fail
  refine (meParts_any _ _ _ n w0 H.out Hn.out).mono ?_
  rintro e w1 ⟨uR, rfl, hoR, hb1⟩
  have hs1 : Since w0 w1 := hb1
  clear hb1
  obtain ⟨AR, cR, rfl, -, -, -⟩ := id hoR.ints
  have hRl : (compB n).length = n.ends.length := by exact compB_len n
  rw [hRl] at hoR
  obtain ⟨bR, oR, rfl, hcR⟩ := roots_cell hoR.ints hRl (by omega)
  have HcR := Lib.hid hcR
  have Hs1 := Lib.hid hs1
  have HRl := Lib.hid hRl
  clear hoR hcR hRl hs0
  rw [HRl.out]
  go_wp2
  go_loopw [11, 46] (fun u i wr => ∃ k : Nat, k ≤ n.ends.length ∧ i = .int .i64 k ∧ Own wr w1.heap.size u ((List.range k).map (depB n)) ∧ Since w1 wr) (fun _ i _ => n.ends.length - (intOf i).toNat)
  case atStart => exact ⟨0, Nat.zero_le _, rfl, by simpa using own_nil _ w1.heap.size, since_refl _⟩
  case round =>
    obtain ⟨k, hk, rfl, ho, hsr⟩ := hrel
    have Ho := Lib.hid ho
    have Hs := Lib.hid hsr
    clear ho hsr hs1
    by_cases hlt : k < n.ends.length
    · have m3 : IntKind.i64.wrap ((k : Int) + 1) = (k : Int) + 1 := wr64 _ (by omega) (by omega)
      have Hlen : Hid (((List.range k).map (depB n)).length + 1 ≤ 17592186044416) := by show _ ≤ _; simp; omega
      have Hn1 := Lib.hid (map_snoc (f := depB n) k)
      obtain ⟨r, hr, hrN, hrs⟩ : ∃ r : Nat, (compB n)[k]? = some (r : Int) ∧ r < n.ends.length ∧ r = leastB n k := by
        exact ⟨leastB n k, by unfold compB; rw [List.getElem?_map, List.getElem?_range hlt]; rfl, least_lt Hn.out hlt, rfl⟩
      have c0 := HcR.out k _ hr wr Hs.out
      have Hrs := Lib.hid hrs
      clear hr hrs
      have hs0r : Since w0 wr := Since.trans Hs1.out Hs.out
      have Hs0r := Lib.hid hs0r
      go_wp2_with fail
      refine (meFrom_any _ _ _ n r wr (H.out.keep Hs0r.out.below) Hn.out hrN).mono ?_
      rintro e w2 ⟨uF, rfl, hoF, hb2⟩
      obtain ⟨AF, cF, rfl, -, -, -⟩ := id hoF.ints
      rw [distB_ln Hn.out hrN] at hoF
      obtain ⟨bF, oF, rfl, hcF⟩ := dist_cell Hn.out hrN hoF.ints
      rw [distB_ln Hn.out hrN]
      have Hs2 := Lib.hid (Since.after Hs.out hb2)
      have Hs02 := Lib.hid (Since.after Hs0r.out hb2)
      have Ho2 := Lib.hid (Own.since Ho.out hb2)
      have cd := hcF k hlt w2 (since_refl _)
      have hdb := distI_b Hn.out hrN hlt
      obtain ⟨d, hd⟩ : ∃ z, z = distI n r k := ⟨_, rfl⟩
      rw [← hd] at cd hdb
      have Hd := Lib.hid hd
      clear hd hoF hcF hb2 c0 hs0r
      have hs02 := Hs02.out
      have hy : depB n k = d := by unfold depB; rw [← Hrs.out, Hd.out]
      rw [hy] at Hn1
      clear hy
      go_wp2_with (at_builtin; refine app_int_s rfl _ _ rfl rfl (Ho2.out.since (since_alloc _ (since_refl _))) w2.heap.size d rfl (by simp [go_sem]) Hlen.out (since_alloc _ Hs2.out) ?_; intro g cc w3 ho3 hs3)
      have Ho3 := Lib.hid ho3
      have Hs3 : Hid (Since w1 w3) := hs3
      clear ho3 hs3
      go_wp2
      go_roundw
      case rel => exact ⟨k + 1, by omega, by first | rfl | go_num, by rw [Hn1.out]; have := Ho3.out; simpa using this, Hs3.out⟩
      case measure => simp [intOf]; omega
    · obtain rfl : k = n.ends.length := by omega
      clear hk hlt
      go_wp2
      go_ret
      exact ⟨_, rfl, Ho.out.mono (Nat.le_trans Hb0.out.size Hs1.out.below.size), Since.trans Hb0.out (Since.trans Hs1.out Hs.out)⟩
theorem ints_two {w : World} {b : Nat} {x y : Int} (h : w.cell? ⟨b, 0, none⟩ = some (.int .i64 x)) (h' : w.cell? ⟨b, 1, none⟩ = some (.int .i64 y)) : IntS w (.slice (some ⟨b, 0, none⟩) 2 2) [x, y] :=
  ⟨some ⟨b, 0, none⟩, 2, rfl, Nat.le_refl _, by unfold maxLen; omega, fun k z hk => by
    match k, hk with
    | 0, hk => simp at hk; subst hk; exact ⟨b, 0, rfl, h⟩
    | 1, hk => simp at hk; subst hk; exact ⟨b, 0, rfl, h'⟩
    | k + 2, hk => simp at hk⟩
theorem ints_four {w : World} {b : Nat} {x y z t : Int} (h0 : w.cell? ⟨b, 0, none⟩ = some (.int .i64 x)) (h1 : w.cell? ⟨b, 1, none⟩ = some (.int .i64 y)) (h2 : w.cell? ⟨b, 2, none⟩ = some (.int .i64 z)) (h3 : w.cell? ⟨b, 3, none⟩ = some (.int .i64 t)) : IntS w (.slice (some ⟨b, 0, none⟩) 4 4) [x, y, z, t] :=
  ⟨some ⟨b, 0, none⟩, 4, rfl, Nat.le_refl _, by unfold maxLen; omega, fun k q hk => by
    match k, hk with
    | 0, hk => simp at hk; subst hk; exact ⟨b, 0, rfl, h0⟩
    | 1, hk => simp at hk; subst hk; exact ⟨b, 0, rfl, h1⟩
    | 2, hk => simp at hk; subst hk; exact ⟨b, 0, rfl, h2⟩
    | 3, hk => simp at hk; subst hk; exact ⟨b, 0, rfl, h3⟩
    | k + 4, hk => simp at hk⟩
set_option maxRecDepth 100000 in
set_option maxHeartbeats 1600000 in
theorem plProve4 (ve vi vn : Value) (n : Net) (w : World) (h : NetIn w ve vi vn n) (hn : netOk n = true) (hid : n.ids.length ≠ 0) (hld : leadAll n = true) :
    Calls Tryz.prog 45 #[.agg #[ve, vi, vn], .int .i64 4] w fun e w' => ∃ u, e = .returned u ∧ Own w' w.heap.size u ((List.range n.ends.length).map (leLab n)) ∧ Below w.heap.size w w' := by
  have hnl := netOk_len hn
  have hn1 := hnl.1
  have hn2 := hnl.2
  have Hn := Lib.hid hn
  have Hld := Lib.hid hld
  have Hid0 := Lib.hid hid
  clear hnl hn hld hid
  obtain ⟨w0, hw0⟩ : ∃ w0, w0 = (w).alloc (.cells #[ve, vi, vn] 27) := ⟨_, rfl⟩
  have hb0 : Below w.heap.size w w0 := by rw [hw0]; exact ((Below.refl _ _).alloc (by simp) _)
  have H := Lib.hid (h.keep hb0)
  obtain ⟨h1, h2, h3⟩ := h.keep hb0
  obtain ⟨A, c, rfl, hlc, hm, hA⟩ := h1
  obtain ⟨A2, c2, rfl, _, hm2, _⟩ := h2
  obtain ⟨A3, c3, rfl, _, hm3, _⟩ := h3
  unfold maxLen at hm hm2 hm3
  have p00 : ∀ W, Since w0 W → W.cell? ⟨w.heap.size, 0, none⟩ = some (.slice A n.ends.length c) := have_cell (by rw [hw0]; simp)
  have p01 : ∀ W, Since w0 W → W.cell? ⟨w.heap.size, 1, none⟩ = some (.slice A2 n.ids.length c2) := have_cell (by rw [hw0]; simp)
  have p02 : ∀ W, Since w0 W → W.cell? ⟨w.heap.size, 2, none⟩ = some (.slice A3 n.inputs.length c3) := have_cell (by rw [hw0]; simp)
  have Hb0 := Lib.hid hb0
  have Hw0 := Lib.hid hw0
  have HA := Lib.hid hA
  clear hA h
  clear hb0 hw0
  go_enter Tryz.func45, Tryz.ntmps45
  go_upto_region 1 with (fail)
  rw [← Hw0.out]
  have hs0 : Since w0 w0 := since_refl _
  go_wp2_with fail
  refine (meParts_any _ _ _ n w0 H.out Hn.out).mono ?_
  rintro e wp ⟨uP, rfl, hoP, hb0⟩
  have hsp : Since w0 wp := hb0
  obtain ⟨AP, cP, rfl, -, -, -⟩ := id hoP.ints
  have Hsp := Lib.hid hsp
  clear hoP hb0
  go_wp2_with fail
  refine (plOnce_any _ _ _ n wp (H.out.keep Hsp.out.below) Hn.out).mono ?_
  rintro e w1 ⟨uR, rfl, hoR, hb1⟩
  rw [if_pos Hld.out] at hoR
  have hs1 : Since w0 w1 := Since.after Hsp.out hb1
  clear hb1 hsp
  obtain ⟨AR, cR, rfl, -, -, -⟩ := id hoR.ints
  have hRl : (leadL n n.ends.length).length = n.ends.length := by exact leadL_len n n.ends.length
  rw [hRl] at hoR
  obtain ⟨bR, oR, rfl, hcR⟩ := roots_cell hoR.ints hRl (by omega)
  have HcR := Lib.hid hcR
  have Hs1 := Lib.hid hs1
  have HRl := Lib.hid hRl
  clear hoR hcR hRl hs0
  rw [HRl.out]
  go_wp2
  go_loopw [11, 46] (fun u i wr => ∃ k : Nat, k ≤ n.ends.length ∧ i = .int .i64 k ∧ Own wr w1.heap.size u ((List.range k).map (leLab n)) ∧ Since w1 wr) (fun _ i _ => n.ends.length - (intOf i).toNat)
  case atStart => exact ⟨0, Nat.zero_le _, rfl, by simpa using own_nil _ w1.heap.size, since_refl _⟩
  case round =>
    obtain ⟨k, hk, rfl, ho, hsr⟩ := hrel
    have Ho := Lib.hid ho
    have Hs := Lib.hid hsr
    clear ho hsr hs1
    by_cases hlt : k < n.ends.length
    · have m3 : IntKind.i64.wrap ((k : Int) + 1) = (k : Int) + 1 := wr64 _ (by omega) (by omega)
      have Hlen : Hid (((List.range k).map (leLab n)).length + 1 ≤ 17592186044416) := by show _ ≤ _; simp; omega
      have Hn1 := Lib.hid (map_snoc (f := leLab n) k)
      obtain ⟨r, hr, hrN, hrs⟩ : ∃ r : Nat, (leadL n n.ends.length)[k]? = some (r : Int) ∧ r < n.ends.length ∧ leadOf n k = (r : Int) ∧ Rch n r k := by
        obtain ⟨r, q1, q2, -, -, -, q6⟩ := lead_spec Hn.out Hld.out hlt
        exact ⟨r, by unfold leadL; rw [List.getElem?_map, List.getElem?_range hlt, ← q1]; rfl, q2, q1, q6⟩
      have c0 := HcR.out k _ hr wr Hs.out
      have Hrs := Lib.hid hrs
      clear hr hrs
      have hs0r : Since w0 wr := Since.trans Hs1.out Hs.out
      have Hs0r := Lib.hid hs0r
      go_wp2_with fail
      refine (meFrom_any _ _ _ n r wr (H.out.keep Hs0r.out.below) Hn.out hrN).mono ?_
      rintro e w2 ⟨uF, rfl, hoF, hb2⟩
      obtain ⟨AF, cF, rfl, -, -, -⟩ := id hoF.ints
      rw [distB_ln Hn.out hrN] at hoF
      obtain ⟨bF, oF, rfl, hcF⟩ := dist_cell Hn.out hrN hoF.ints
      rw [distB_ln Hn.out hrN]
      have Hs2 := Lib.hid (Since.after Hs.out hb2)
      have Hs02 := Lib.hid (Since.after Hs0r.out hb2)
      have Ho2 := Lib.hid (Own.since Ho.out hb2)
      have cd := hcF k hlt w2 (since_refl _)
      have hdb := distI_b Hn.out hrN hlt
      obtain ⟨d, hd⟩ : ∃ z, z = distI n r k := ⟨_, rfl⟩
      rw [← hd] at cd hdb
      have Hd := Lib.hid hd
      clear hd hoF hcF hb2 c0 hs0r
      have hs02 := Hs02.out
      have hd0 : 0 ≤ d := by rw [Hd.out]; exact (distI_neg Hn.out hrN hlt).2 Hrs.out.2
      have hir := id_rng Hn.out Hid0.out
      have hrid : r < n.ids.length := by rw [hir.1]; exact hrN
      obtain ⟨bI, oI, cI, hAI, hcI⟩ := ids_cell H.out.2.1 hrid
      have hidb := hir.2 r hrN
      have ci := hcI w2 Hs02.out
      obtain ⟨idr, hidr⟩ : ∃ z, z = n.ids.getD r 0 := ⟨_, rfl⟩
      rw [← hidr] at ci hidb
      cases hAI
      have hy : leLab n k = idr * 100 + d := by unfold leLab; rw [Hrs.out.1, Int.toNat_natCast, ← hidr, ← Hd.out]
      obtain ⟨y, hyy⟩ : ∃ z, z = idr * 100 + d := ⟨_, rfl⟩
      rw [hy, ← hyy] at Hn1
      have Hyy := Lib.hid hyy
      clear hy hyy hidr hcI hir
      go_wp2_with fail
      refine (plJoin4 _ idr d _ (ints_two (by simp) (by simp)) (by omega) (by omega) hd0 (by omega)).mono ?_
      rintro e w4 ⟨rfl, hb4⟩
      have Hs4 := Lib.hid (Since.after (since_alloc _ Hs2.out) hb4)
      have Ho4 := Lib.hid (Own.since (Own.since Ho2.out (since_alloc _ (since_refl _))) hb4)
      clear hb4
      rw [← Hyy.out]
      go_wp2_with (at_builtin; refine app_int_s rfl _ _ rfl rfl (Ho4.out.since (since_alloc _ (since_refl _))) w4.heap.size y rfl (by simp [go_sem]) Hlen.out (since_alloc _ Hs4.out) ?_; intro g cc w3 ho3 hs3)
      have Ho3 := Lib.hid ho3
      have Hs3 : Hid (Since w1 w3) := hs3
      clear ho3 hs3
      go_wp2
      go_roundw
      case rel => exact ⟨k + 1, by omega, by first | rfl | go_num, by rw [Hn1.out]; have := Ho3.out; simpa using this, Hs3.out⟩
      case measure => simp [intOf]; omega

    · obtain rfl : k = n.ends.length := by omega
      clear hk hlt
      go_wp2
      go_ret
      exact ⟨_, rfl, Ho.out.mono (Nat.le_trans Hb0.out.size Hs1.out.below.size), Since.trans Hb0.out (Since.trans Hs1.out Hs.out)⟩
end Go.Proofs.YtfkmkpamdlhbgaaGreat
namespace Go.Proofs.YtfkmkpamdlhbgaaGreat
open Go.RowKit
/-! plProve, even components -/
set_option maxRecDepth 100000 in
set_option maxHeartbeats 1600000 in
theorem plProve5 (ve vi vn : Value) (n : Net) (w : World) (h : NetIn w ve vi vn n) (hn : netOk n = true) (hid : n.ids.length ≠ 0) :
    Calls Tryz.prog 45 #[.agg #[ve, vi, vn], .int .i64 5] w fun e w' => ∃ u, e = .returned u ∧ Own w' w.heap.size u ((List.range n.ends.length).map (evLab n)) ∧ Below w.heap.size w w' := by
  have hnl := netOk_len hn
  have hn1 := hnl.1
  have hn2 := hnl.2
  have Hn := Lib.hid hn
  have Hid0 := Lib.hid hid
  clear hnl hn hid
  obtain ⟨w0, hw0⟩ : ∃ w0, w0 = (w).alloc (.cells #[ve, vi, vn] 27) := ⟨_, rfl⟩
  have hb0 : Below w.heap.size w w0 := by rw [hw0]; exact ((Below.refl _ _).alloc (by simp) _)
  have H := Lib.hid (h.keep hb0)
  obtain ⟨h1, h2, h3⟩ := h.keep hb0
  obtain ⟨A, c, rfl, hlc, hm, hA⟩ := h1
  obtain ⟨A2, c2, rfl, _, hm2, _⟩ := h2
  obtain ⟨A3, c3, rfl, _, hm3, _⟩ := h3
  unfold maxLen at hm hm2 hm3
  have p00 : ∀ W, Since w0 W → W.cell? ⟨w.heap.size, 0, none⟩ = some (.slice A n.ends.length c) := have_cell (by rw [hw0]; simp)
  have p01 : ∀ W, Since w0 W → W.cell? ⟨w.heap.size, 1, none⟩ = some (.slice A2 n.ids.length c2) := have_cell (by rw [hw0]; simp)
  have p02 : ∀ W, Since w0 W → W.cell? ⟨w.heap.size, 2, none⟩ = some (.slice A3 n.inputs.length c3) := have_cell (by rw [hw0]; simp)
  have Hb0 := Lib.hid hb0
  have Hw0 := Lib.hid hw0
  have HA := Lib.hid hA
  clear hA h
  clear hb0 hw0
  go_enter Tryz.func45, Tryz.ntmps45
  go_upto_region 1 with (fail)
  rw [← Hw0.out]
  have hs0 : Since w0 w0 := since_refl _
  go_wp2_with fail
  refine (meParts_any _ _ _ n w0 H.out Hn.out).mono ?_
  rintro e w1 ⟨uR, rfl, hoR, hb1⟩
  have hs1 : Since w0 w1 := hb1
  clear hb1
  obtain ⟨AR, cR, rfl, -, -, -⟩ := id hoR.ints
  have hRl : (compB n).length = n.ends.length := by exact compB_len n
  rw [hRl] at hoR
  obtain ⟨bR, oR, rfl, hcR⟩ := roots_cell hoR.ints hRl (by omega)
  have HcR := Lib.hid hcR
  have Hs1 := Lib.hid hs1
  have HRl := Lib.hid hRl
  clear hoR hcR hRl hs0
  rw [HRl.out]
  go_wp2
  go_loopw [11, 46] (fun u i wr => ∃ k : Nat, k ≤ n.ends.length ∧ i = .int .i64 k ∧ Own wr w1.heap.size u ((List.range k).map (evLab n)) ∧ Since w1 wr) (fun _ i _ => n.ends.length - (intOf i).toNat)
  case atStart => exact ⟨0, Nat.zero_le _, rfl, by simpa using own_nil _ w1.heap.size, since_refl _⟩
  case round =>
    obtain ⟨k, hk, rfl, ho, hsr⟩ := hrel
    have Ho := Lib.hid ho
    have Hs := Lib.hid hsr
    clear ho hsr hs1
    by_cases hlt : k < n.ends.length
    · have m3 : IntKind.i64.wrap ((k : Int) + 1) = (k : Int) + 1 := wr64 _ (by omega) (by omega)
      have Hlen : Hid (((List.range k).map (evLab n)).length + 1 ≤ 17592186044416) := by show _ ≤ _; simp; omega
      have Hn1 := Lib.hid (map_snoc (f := evLab n) k)
      obtain ⟨r, hr, hrN, hrs⟩ : ∃ r : Nat, (compB n)[k]? = some (r : Int) ∧ r < n.ends.length ∧ r = leastB n k := by
        exact ⟨leastB n k, by unfold compB; rw [List.getElem?_map, List.getElem?_range hlt]; rfl, least_lt Hn.out hlt, rfl⟩
      have c0 := HcR.out k _ hr wr Hs.out
      have Hrs := Lib.hid hrs
      clear hr hrs
      have hs0r : Since w0 wr := Since.trans Hs1.out Hs.out
      have Hs0r := Lib.hid hs0r
      go_wp2_with fail
      refine (meFrom_any _ _ _ n r wr (H.out.keep Hs0r.out.below) Hn.out hrN).mono ?_
      rintro e w2 ⟨uF, rfl, hoF, hb2⟩
      obtain ⟨AF, cF, rfl, -, -, -⟩ := id hoF.ints
      rw [distB_ln Hn.out hrN] at hoF
      obtain ⟨bF, oF, rfl, hcF⟩ := dist_cell Hn.out hrN hoF.ints
      rw [distB_ln Hn.out hrN]
      have Hs2 := Lib.hid (Since.after Hs.out hb2)
      have Hs02 := Lib.hid (Since.after Hs0r.out hb2)
      have Ho2 := Lib.hid (Own.since Ho.out hb2)
      have cd := hcF k hlt w2 (since_refl _)
      have hdb := distI_b Hn.out hrN hlt
      obtain ⟨d, hd⟩ : ∃ z, z = distI n r k := ⟨_, rfl⟩
      rw [← hd] at cd hdb
      have Hd := Lib.hid hd
      clear hd hoF hcF hb2 c0 hs0r
      have hs02 := Hs02.out
      have hrt : depB n k = d := by unfold depB; rw [← Hrs.out, Hd.out]
      have hd0 : 0 ≤ d := by rw [← hrt]; exact (trB Hn.out).pos k hlt
      have hir := id_rng Hn.out Hid0.out
      have hrid : r < n.ids.length := by rw [hir.1]; exact hrN
      obtain ⟨bI, oI, cI, hAI, hcI⟩ := ids_cell H.out.2.1 hrid
      have hidb := hir.2 r hrN
      have ci := hcI w2 Hs02.out
      have HcI := Lib.hid hcI
      obtain ⟨idr, hidr⟩ : ∃ z, z = n.ids.getD r 0 := ⟨_, rfl⟩
      rw [← hidr] at ci hidb
      cases hAI
      have Hidr := Lib.hid hidr
      clear hcI hir hidr hrt
      go_wp2_with fail
      refine (meSpan_any _ _ _ n r w2 (H.out.keep Hs02.out.below) Hn.out hrN).mono ?_
      rintro e w4 ⟨uP, rfl, hoP, hb4⟩
      obtain ⟨AP, cP, rfl, -, -, -⟩ := id hoP.ints
      have hspl : (spanB n r).length = n.ends.length := by simp [spanB]
      rw [hspl] at hoP
      obtain ⟨bP, oP, rfl, hcP⟩ := roots_cell hoP.ints hspl (by omega)
      rw [hspl]
      have cp := hcP k _ (span_get hlt) w4 (since_refl _)
      have HiP := Lib.hid hoP.ints
      have Hs4 := Lib.hid (Since.after Hs2.out hb4)
      have Hs04 := Lib.hid (Since.after Hs02.out hb4)
      have Ho4 := Lib.hid (Own.since Ho2.out hb4)
      have ci4 := HcI.out w4 Hs04.out
      rw [← Hidr.out] at ci4
      obtain ⟨tw, htw⟩ : ∃ z, z = towB n r k := ⟨_, rfl⟩
      rw [← htw] at cp
      have Htw := Lib.hid htw
      clear hoP hb4 hcP ci cd htw hspl
      have hptk : ptB n k = tw := by unfold ptB; rw [← Hrs.out, Htw.out]
      have hroot := ptB_root Hn.out hlt
      rw [hptk, ← Hrs.out] at hroot
      obtain ⟨cc, hcc⟩ : ∃ z, z = subB n.ends.length (depR n r) (parR n r) k := ⟨_, rfl⟩
      obtain ⟨cm, hcm⟩ : ∃ z, z = cc % 2 := ⟨_, rfl⟩
      have hcs : subB n.ends.length (depB n) (parB n) k % 2 = cm := by
        rw [hcm, hcc, ← sub_same Hn.out hlt, ← Hrs.out]
      have Hcm := Lib.hid hcs
      have Hcs := Lib.hid hcc.symm
      have hcmb : cm ≤ 1 := by omega
      have t1 : (cc : Int).tmod 2 = (cm : Int) := by rw [Int.tmod_eq_emod_of_nonneg (by omega)]; omega
      have t2 : (cc : Int) % 2 = (cm : Int) := by omega
      have t3 : IntKind.i64.wrap (cm : Int) = (cm : Int) := wr64 _ (by omega) (by omega)
      have hcells : ∀ W, Since w0 W → W.cell? ⟨bI, oI + r, none⟩ = some (.int .i64 idr) := fun W hW => by rw [Hidr.out]; exact HcI.out W hW
      have HcI2 := Lib.hid hcells
      clear hcells hcc hcm hcs
      by_cases hkr : k = r
      · have hneg := hroot.2 hkr
        have ep : (if ptB n k < 0 then (9 : Int) else ptB n k) = 9 := if_pos (by rw [hptk]; exact hneg)
        have Hep := Lib.hid ep
        clear ep hptk hroot
        have e0 : ((k : Int) = (r : Int)) = True := by simp [hkr]
        have e0b : ((k : Int) == (r : Int)) = true := by simp [hkr]
        clear hkr
        have hy : evLab n k = ((idr * 100 + d) * 10 + 9) * 2 + (cm : Int) := by
          unfold evLab
          rw [← Hrs.out, ← Hidr.out, Hcm.out, Hep.out]
          have h1 : depB n k = d := by unfold depB; rw [← Hrs.out, Hd.out]
          rw [h1]
        obtain ⟨y, hyy⟩ : ∃ z, z = ((idr * 100 + d) * 10 + 9) * 2 + (cm : Int) := ⟨_, rfl⟩
        rw [hy, ← hyy] at Hn1
        have Hyy := Lib.hid hyy
        clear hy hyy
        go_upto_region 21 with (fail)
        clear cp
        refine wp_region_chain (w0 := w4) 17 [false, false, false, false, false, false, false, false, false, false, false, false, true, true, true, true, true] (by kernel_rfl) (by kernel_rfl) (since_refl _) ?_
        simp only [selF, selT, List.take_succ_cons, List.take_zero, List.drop_succ_cons, List.drop_zero]
        refine pflow_val (v := ?_) rfl ?_ ?_; rotate_left; (intro W hW; go_simp; with_reducible rfl)
        simp only [Act.put, List.setIfInBounds_toArray, List.set_cons_succ, List.set_cons_zero]
        refine pflow_val (v := ?_) rfl ?_ ?_; rotate_left; (intro W hW; go_simp; with_reducible rfl)
        simp only [Act.put, List.setIfInBounds_toArray, List.set_cons_succ, List.set_cons_zero]
        refine pflow_val (v := ?_) rfl ?_ ?_; rotate_left; (intro W hW; go_simp; with_reducible rfl)
        simp only [Act.put, List.setIfInBounds_toArray, List.set_cons_succ, List.set_cons_zero]
        refine pflow_val (v := ?_) rfl ?_ ?_; rotate_left; (intro W hW; have k1 := p01 W (Since.trans Hs04.out hW); go_simp; with_reducible rfl)
        simp only [Act.put, List.setIfInBounds_toArray, List.set_cons_succ, List.set_cons_zero]
        refine pflow_val (v := ?_) rfl ?_ ?_; rotate_left; (intro W hW; go_simp; with_reducible rfl)
        simp only [Act.put, List.setIfInBounds_toArray, List.set_cons_succ, List.set_cons_zero]
        refine pflow_val (v := ?_) rfl ?_ ?_; rotate_left; (intro W hW; go_simp; with_reducible rfl)
        simp only [Act.put, List.setIfInBounds_toArray, List.set_cons_succ, List.set_cons_zero]
        refine pflow_val (v := ?_) rfl ?_ ?_; rotate_left; (intro W hW; have k1 := HcI2.out W (Since.trans Hs04.out hW); go_simp; with_reducible rfl)
        simp only [Act.put, List.setIfInBounds_toArray, List.set_cons_succ, List.set_cons_zero]
        refine pflow_val (v := ?_) rfl ?_ ?_; rotate_left; (intro W hW; go_simp; with_reducible rfl)
        simp only [Act.put, List.setIfInBounds_toArray, List.set_cons_succ, List.set_cons_zero]
        refine pflow_val (v := ?_) rfl ?_ ?_; rotate_left; (intro W hW; go_simp; with_reducible rfl)
        simp only [Act.put, List.setIfInBounds_toArray, List.set_cons_succ, List.set_cons_zero]
        refine pflow_val (v := ?_) rfl ?_ ?_; rotate_left; (intro W hW; (have k0 := p00 W (Since.trans Hs04.out hW); have k1 := p01 W (Since.trans Hs04.out hW); have k2 := p02 W (Since.trans Hs04.out hW)); go_simp; with_reducible rfl)
        simp only [Act.put, List.setIfInBounds_toArray, List.set_cons_succ, List.set_cons_zero]
        refine pflow_val (v := ?_) rfl ?_ ?_; rotate_left; (intro W hW; go_simp; with_reducible rfl)
        simp only [Act.put, List.setIfInBounds_toArray, List.set_cons_succ, List.set_cons_zero]
        refine pflow_val (v := ?_) rfl ?_ ?_; rotate_left; (intro W hW; go_simp; with_reducible rfl)
        simp only [Act.put, List.setIfInBounds_toArray, List.set_cons_succ, List.set_cons_zero]
        intro W hW
        refine Or.inl ⟨rfl, ?_⟩
        go_simp
        (with_reducible refine (plBelow_any _ _ _ n r k cP _ W (H.out.keep (Since.after Hs04.out hW).below) Hn.out hrN hlt (HiP.out.keep hW.below)).mono ?_)
        rintro e W' ⟨rfl, hb⟩
        refine ⟨_, rfl, hW.after hb, ?_⟩
        replace hW := hW.after hb
        rw [Hcs.out]
        (try simp only [Act.put, List.setIfInBounds_toArray, List.set_cons_succ, List.set_cons_zero])
        refine tflow_val (v := ?_) rfl ?_ hW ?_; rotate_left; (go_simp; with_reducible rfl)
        simp only [Act.put, List.setIfInBounds_toArray, List.set_cons_succ, List.set_cons_zero]
        refine tflow_alloc (v := ?_) (ob := ?_) rfl ?_ hW ?_; rotate_left 2
        (go_simp; first | with_reducible rfl | (refine ⟨?_, ?_⟩ <;> with_reducible rfl))
        intro w5 hw5d hw5s
        replace hW := hw5s
        clear hw5s
        have Hc5 : Hid (IntS w5 (.slice (some ⟨W'.heap.size, 0, none⟩) 4 4) [idr, d, 9, (cm : Int)]) := by show IntS _ _ _; rw [hw5d]; exact ints_four (by simp) (by simp) (by simp) (by simp)
        clear hw5d hb
        (try simp only [Act.put, List.setIfInBounds_toArray, List.set_cons_succ, List.set_cons_zero])
        refine Or.inl ⟨rfl, ?_⟩
        go_simp
        (with_reducible refine (plJoin5 _ idr d 9 (cm : Int) _ Hc5.out (by omega) (by omega) hd0 (by omega) (by omega) (by omega) (by omega) (by omega)).mono ?_)
        rintro e W' ⟨rfl, hb⟩
        refine ⟨_, rfl, hW.after hb, ?_⟩
        replace hW := hW.after hb
        rw [← Hyy.out]
        (try simp only [Act.put, List.setIfInBounds_toArray, List.set_cons_succ, List.set_cons_zero])
        refine tflow_alloc (v := ?_) (ob := ?_) rfl ?_ hW ?_; rotate_left 2
        (go_simp; first | with_reducible rfl | (refine ⟨?_, ?_⟩ <;> with_reducible rfl))
        intro w7 hw7d hw7s
        replace hW := hw7s
        clear hw7s
        have Hc7 : Hid (w7.cell? ⟨W'.heap.size, 0, none⟩ = some (.int .i64 y)) := by show _ = _; rw [hw7d]; simp
        have Hsz7 : Hid (W'.heap.size < w7.heap.size) := by show _ < _; rw [hw7d]; simp
        clear hw7d hb
        (try simp only [Act.put, List.setIfInBounds_toArray, List.set_cons_succ, List.set_cons_zero])
        simp only [TFlow]
        have Hs7 := Lib.hid (Since.trans Hs4.out hW)
        have Ho7 := Lib.hid (Own.since Ho4.out hW)
        clear hW hs02 ci4
        go_wp2_with (at_builtin; refine app_int_s rfl _ _ rfl rfl Ho7.out W'.heap.size y rfl Hc7.out Hlen.out Hs7.out ?_; intro g cc2 w3 ho3 hs3)
        have Ho3 := Lib.hid ho3
        have Hs3 : Hid (Since w1 w3) := hs3
        clear ho3 hs3
        go_wp2
        go_roundw
        case rel => exact ⟨k + 1, by omega, by first | rfl | go_num, by rw [Hn1.out]; have := Ho3.out; simpa using this, Hs3.out⟩
        case measure => simp [intOf]; omega
      · have hpos : 0 ≤ tw := Int.not_lt.1 (fun h9 => hkr (hroot.1 h9))
        have hlt6 : tw < 6 := by
          have h9 := (evLab_parts Hn.out Hid0.out hlt).2.2.2.2.2.2
          rw [hptk] at h9
          exact h9 hpos
        have ep : (if ptB n k < 0 then (9 : Int) else ptB n k) = tw := by rw [hptk]; exact if_neg (Int.not_lt.2 hpos)
        have Hep := Lib.hid ep
        clear ep hptk hroot
        have e0 : ((k : Int) = (r : Int)) = False := by simp; omega
        have e0b : ((k : Int) == (r : Int)) = false := beq_eq_false_iff_ne.2 (by omega)
        have hy : evLab n k = ((idr * 100 + d) * 10 + tw) * 2 + (cm : Int) := by
          unfold evLab
          rw [← Hrs.out, ← Hidr.out, Hcm.out, Hep.out]
          have h1 : depB n k = d := by unfold depB; rw [← Hrs.out, Hd.out]
          rw [h1]
        obtain ⟨y, hyy⟩ : ∃ z, z = ((idr * 100 + d) * 10 + tw) * 2 + (cm : Int) := ⟨_, rfl⟩
        rw [hy, ← hyy] at Hn1
        have Hyy := Lib.hid hyy
        clear hy hyy
        go_upto_region 21 with (fail)
        clear cp
        refine wp_region_chain (w0 := w4) 17 [false, false, false, false, false, false, false, false, false, false, false, false, true, true, true, true, true] (by kernel_rfl) (by kernel_rfl) (since_refl _) ?_
        simp only [selF, selT, List.take_succ_cons, List.take_zero, List.drop_succ_cons, List.drop_zero]
        refine pflow_val (v := ?_) rfl ?_ ?_; rotate_left; (intro W hW; go_simp; with_reducible rfl)
        simp only [Act.put, List.setIfInBounds_toArray, List.set_cons_succ, List.set_cons_zero]
        refine pflow_val (v := ?_) rfl ?_ ?_; rotate_left; (intro W hW; go_simp; with_reducible rfl)
        simp only [Act.put, List.setIfInBounds_toArray, List.set_cons_succ, List.set_cons_zero]
        refine pflow_val (v := ?_) rfl ?_ ?_; rotate_left; (intro W hW; go_simp; with_reducible rfl)
        simp only [Act.put, List.setIfInBounds_toArray, List.set_cons_succ, List.set_cons_zero]
        refine pflow_val (v := ?_) rfl ?_ ?_; rotate_left; (intro W hW; have k1 := p01 W (Since.trans Hs04.out hW); go_simp; with_reducible rfl)
        simp only [Act.put, List.setIfInBounds_toArray, List.set_cons_succ, List.set_cons_zero]
        refine pflow_val (v := ?_) rfl ?_ ?_; rotate_left; (intro W hW; go_simp; with_reducible rfl)
        simp only [Act.put, List.setIfInBounds_toArray, List.set_cons_succ, List.set_cons_zero]
        refine pflow_val (v := ?_) rfl ?_ ?_; rotate_left; (intro W hW; go_simp; with_reducible rfl)
        simp only [Act.put, List.setIfInBounds_toArray, List.set_cons_succ, List.set_cons_zero]
        refine pflow_val (v := ?_) rfl ?_ ?_; rotate_left; (intro W hW; have k1 := HcI2.out W (Since.trans Hs04.out hW); go_simp; with_reducible rfl)
        simp only [Act.put, List.setIfInBounds_toArray, List.set_cons_succ, List.set_cons_zero]
        refine pflow_val (v := ?_) rfl ?_ ?_; rotate_left; (intro W hW; go_simp; with_reducible rfl)
        simp only [Act.put, List.setIfInBounds_toArray, List.set_cons_succ, List.set_cons_zero]
        refine pflow_val (v := ?_) rfl ?_ ?_; rotate_left; (intro W hW; go_simp; with_reducible rfl)
        simp only [Act.put, List.setIfInBounds_toArray, List.set_cons_succ, List.set_cons_zero]
        refine pflow_val (v := ?_) rfl ?_ ?_; rotate_left; (intro W hW; (have k0 := p00 W (Since.trans Hs04.out hW); have k1 := p01 W (Since.trans Hs04.out hW); have k2 := p02 W (Since.trans Hs04.out hW)); go_simp; with_reducible rfl)
        simp only [Act.put, List.setIfInBounds_toArray, List.set_cons_succ, List.set_cons_zero]
        refine pflow_val (v := ?_) rfl ?_ ?_; rotate_left; (intro W hW; go_simp; with_reducible rfl)
        simp only [Act.put, List.setIfInBounds_toArray, List.set_cons_succ, List.set_cons_zero]
        refine pflow_val (v := ?_) rfl ?_ ?_; rotate_left; (intro W hW; go_simp; with_reducible rfl)
        simp only [Act.put, List.setIfInBounds_toArray, List.set_cons_succ, List.set_cons_zero]
        intro W hW
        refine Or.inl ⟨rfl, ?_⟩
        go_simp
        (with_reducible refine (plBelow_any _ _ _ n r k cP _ W (H.out.keep (Since.after Hs04.out hW).below) Hn.out hrN hlt (HiP.out.keep hW.below)).mono ?_)
        rintro e W' ⟨rfl, hb⟩
        refine ⟨_, rfl, hW.after hb, ?_⟩
        replace hW := hW.after hb
        rw [Hcs.out]
        (try simp only [Act.put, List.setIfInBounds_toArray, List.set_cons_succ, List.set_cons_zero])
        refine tflow_val (v := ?_) rfl ?_ hW ?_; rotate_left; (go_simp; with_reducible rfl)
        simp only [Act.put, List.setIfInBounds_toArray, List.set_cons_succ, List.set_cons_zero]
        refine tflow_alloc (v := ?_) (ob := ?_) rfl ?_ hW ?_; rotate_left 2
        (go_simp; first | with_reducible rfl | (refine ⟨?_, ?_⟩ <;> with_reducible rfl))
        intro w5 hw5d hw5s
        replace hW := hw5s
        clear hw5s
        have Hc5 : Hid (IntS w5 (.slice (some ⟨W'.heap.size, 0, none⟩) 4 4) [idr, d, tw, (cm : Int)]) := by show IntS _ _ _; rw [hw5d]; exact ints_four (by simp) (by simp) (by simp) (by simp)
        clear hw5d hb
        (try simp only [Act.put, List.setIfInBounds_toArray, List.set_cons_succ, List.set_cons_zero])
        refine Or.inl ⟨rfl, ?_⟩
        go_simp
        (with_reducible refine (plJoin5 _ idr d tw (cm : Int) _ Hc5.out (by omega) (by omega) hd0 (by omega) (by omega) (by omega) (by omega) (by omega)).mono ?_)
        rintro e W' ⟨rfl, hb⟩
        refine ⟨_, rfl, hW.after hb, ?_⟩
        replace hW := hW.after hb
        rw [← Hyy.out]
        (try simp only [Act.put, List.setIfInBounds_toArray, List.set_cons_succ, List.set_cons_zero])
        refine tflow_alloc (v := ?_) (ob := ?_) rfl ?_ hW ?_; rotate_left 2
        (go_simp; first | with_reducible rfl | (refine ⟨?_, ?_⟩ <;> with_reducible rfl))
        intro w7 hw7d hw7s
        replace hW := hw7s
        clear hw7s
        have Hc7 : Hid (w7.cell? ⟨W'.heap.size, 0, none⟩ = some (.int .i64 y)) := by show _ = _; rw [hw7d]; simp
        have Hsz7 : Hid (W'.heap.size < w7.heap.size) := by show _ < _; rw [hw7d]; simp
        clear hw7d hb
        (try simp only [Act.put, List.setIfInBounds_toArray, List.set_cons_succ, List.set_cons_zero])
        simp only [TFlow]
        have Hs7 := Lib.hid (Since.trans Hs4.out hW)
        have Ho7 := Lib.hid (Own.since Ho4.out hW)
        clear hW hs02 ci4
        go_wp2_with (at_builtin; refine app_int_s rfl _ _ rfl rfl Ho7.out W'.heap.size y rfl Hc7.out Hlen.out Hs7.out ?_; intro g cc2 w3 ho3 hs3)
        have Ho3 := Lib.hid ho3
        have Hs3 : Hid (Since w1 w3) := hs3
        clear ho3 hs3
        go_wp2
        go_roundw
        case rel => exact ⟨k + 1, by omega, by first | rfl | go_num, by rw [Hn1.out]; have := Ho3.out; simpa using this, Hs3.out⟩
        case measure => simp [intOf]; omega

    · obtain rfl : k = n.ends.length := by omega
      clear hk hlt
      go_wp2
      go_ret
      exact ⟨_, rfl, Ho.out.mono (Nat.le_trans Hb0.out.size Hs1.out.below.size), Since.trans Hb0.out (Since.trans Hs1.out Hs.out)⟩
end Go.Proofs.YtfkmkpamdlhbgaaGreat
namespace Go.Proofs.YtfkmkpamdlhbgaaGreat
open Go.RowKit
/-! a slice of integers of the call's own that begins anywhere in its row (a queue) -/
def QA (W : World) (base g off cap : Nat) (xs : List Int) : Prop :=
  base ≤ g ∧ xs.length ≤ cap ∧ cap ≤ maxLen ∧ ∃ cur : Array Value, W.heap[g]? = some (.cells cur 3 (0, 0)) ∧ off + cap ≤ cur.size ∧ ∀ j x, xs[j]? = some x → cur[off + j]? = some (.int .i64 x)
theorem QA.cell {W : World} {base g off cap : Nat} {xs : List Int} (h : QA W base g off cap xs) {j : Nat} {x : Int} (hx : xs[j]? = some x) : W.cell? ⟨g, off + j, none⟩ = some (.int .i64 x) := by
  obtain ⟨-, -, -, cur, h1, -, h3⟩ := h
  simp [World.cell?, h1, h3 j x hx]
theorem QA.lt {W : World} {base g off cap : Nat} {xs : List Int} (h : QA W base g off cap xs) : g < W.heap.size := by
  obtain ⟨-, -, -, cur, h1, -⟩ := h
  exact (Array.getElem?_eq_some_iff.1 h1).1
theorem QA.stable {W W' : World} {base g off cap : Nat} {xs : List Int} (h : QA W base g off cap xs) (hs : W'.heap[g]? = W.heap[g]?) : QA W' base g off cap xs := by
  obtain ⟨h1, h2, h3, cur, h4, h5⟩ := h
  exact ⟨h1, h2, h3, cur, hs.trans h4, h5⟩
theorem QA.since {W W' : World} {base g off cap : Nat} {xs : List Int} (h : QA W base g off cap xs) (hs : Since W W') : QA W' base g off cap xs := h.stable (hs.below.block g h.lt)
theorem QA.other {W : World} {base g off cap : Nat} {xs : List Int} (h : QA W base g off cap xs) {b : Nat} (hb : g ≠ b) (k : Nat) (v : Value) : QA (W.setCell ⟨b, k, none⟩ v) base g off cap xs := h.stable (Below.heap_setCell W _ v g hb)
theorem QA.tail {W : World} {base g off cap : Nat} {x : Int} {xs : List Int} (h : QA W base g off cap (x :: xs)) : QA W base g (off + 1) (cap - 1) xs := by
  obtain ⟨h1, h2, h3, cur, h4, h5, h6⟩ := h
  rw [List.length_cons] at h2
  exact ⟨h1, by omega, by omega, cur, h4, by omega, fun j y hy => by
    have := h6 (j + 1) y (by simpa using hy)
    rwa [show off + (j + 1) = off + 1 + j by omega] at this⟩
theorem QA.nil {W : World} {base g off cap : Nat} {xs : List Int} (h : QA W base g off cap xs) : QA W base g off 0 [] := by
  obtain ⟨h1, h2, h3, cur, h4, h5, h6⟩ := h
  exact ⟨h1, Nat.le_refl _, Nat.zero_le _, cur, h4, by omega, fun j y hy => by simp at hy⟩
theorem QA.one (W : World) (base : Nat) (x : Int) (h : base ≤ W.heap.size) : QA (W.alloc (.cells #[.int .i64 x] 3)) base W.heap.size 0 1 [x] := by
  refine ⟨h, Nat.le_refl _, by simp [maxLen], #[.int .i64 x], ?_, by simp, fun j y hy => ?_⟩
  · show (W.heap.push _)[W.heap.size]? = _
    rw [Array.getElem?_push_size]
  · have := lt_of_get hy
    simp at this
    subst this
    simpa using hy
theorem app_q {w w0 : World} {ops : Array Oper} {rest : List Oper} {o : Oper} {a : Act} {Q : Exit → Act → World → Prop} (hgd : o.guard = none) (s x : Operand)
    (ho : o.op = .call { callee := .builtin .append, args := #[s, x], argTypes := #[25, 25] }) {g off cap : Nat} {xs : List Int} (hs : a.eval s = .slice (some ⟨g, off, none⟩) xs.length cap) (h : QA w w0.heap.size g off cap xs) (b : Nat) (y : Int)
    (hx : a.eval x = .slice (some ⟨b, 0, none⟩) 1 1) (hc : w.cell? ⟨b, 0, none⟩ = some (.int .i64 y)) (hl : xs.length + 1 ≤ 1000000) (hsn : Since w0 w)
    (k : ∀ g' off' cap' w', QA w' w0.heap.size g' off' cap' (xs ++ [y]) → Only [g] w w' → (g' = g ∨ w.heap.size ≤ g') → Since w0 w' → wpList Tryz.prog ops Q rest (a.put o.dst (.slice (some ⟨g', off', none⟩) (xs.length + 1) cap')) w') : wpList Tryz.prog ops Q (o :: rest) a w := by
  obtain ⟨i0, hi, hz0, hz1, hz2⟩ := info_parts int_info
  have hq := h
  obtain ⟨h1, h2, h3, cur, h4, h5, h6⟩ := h
  refine wpList_append_arg w hgd s x 25 ho 3 i0 (.int .i64 0) 1 8 Tryz.underlying25 hi hz0 hz1 hz2 rfl (by decide) g off xs.length cap (xs.map (Value.int .i64)) hs (by simp)
    (fun j u hj => by
      rw [List.getElem?_map] at hj
      cases hxj : xs[j]? with
      | none => rw [hxj] at hj; cases hj
      | some z => rw [hxj] at hj; cases hj; exact hq.cell hxj)
    ⟨b, 0, none⟩ 1 1 [.int .i64 y] hx rfl
    (fun j u hj => by
      have := lt_of_get hj
      simp at this
      subst this
      simp at hj
      subst hj
      rw [Go.Addr.add_lit]
      exact hc)
    (by simp [Value.oneCell'])
    (fun hr j hj => by
      simp at hj
      subst hj
      have hlt : off + xs.length * 1 + 0 < cur.size := by omega
      constructor
      · simp [World.cell?, h4]
        omega
      · simp [World.frozen?, h4])
    (by unfold maxLen; omega) (by omega) ?_ ?_
  · intro hr
    have hlt : off + xs.length < cur.size := by omega
    have e : w.setCells g (off + xs.length * 1) [.int .i64 y] = w.setCell ⟨g, off + xs.length, none⟩ (.int .i64 y) := by rw [Nat.mul_one]; rfl
    rw [e]
    refine k g off cap _ ⟨h1, by simp; omega, h3, cur.setIfInBounds (off + xs.length) (.int .i64 y), ?_, by simpa using h5, fun j z hj => ?_⟩ ((Only.refl _ _).setCell (.inl (by simp)) _) (.inl rfl) (Below.setCell hsn h1 _)
    · simp [World.setCell, Array.getElem?_modify, h4]
    · by_cases e2 : j = xs.length
      · subst e2
        simp at hj
        subst hj
        simp [hlt]
      · have hj2 : xs[j]? = some z := by
          have hjl := lt_of_get hj
          rw [List.length_append, List.length_singleton] at hjl
          rwa [List.getElem?_append_left (by omega)] at hj
        rw [Array.getElem?_setIfInBounds_ne (by omega)]
        exact h6 j z hj2
  · intro hr v' w' hown hgrow
    rcases hown.2 with ⟨rfl, hn⟩ | ⟨g', cap', cur', rfl, hb', hg', hn', hc', hsz', htk⟩
    · omega
    · refine k g' 0 cap' w' ⟨by have := hsn.below.size; omega, by simpa using hn', hc', cur', hg', by omega, fun j z hj => ?_⟩ ((Only.of_grown hgrow).mono (fun _ h => by simp at h)) (.inr hb') (Below.trans hsn ((Only.of_grown hgrow).below _ hsn.below.size (fun _ h => by simp at h)))
      have e3 : (xs.map (Value.int .i64) ++ [.int .i64 y])[j]? = some (.int .i64 z) := by
        have : (xs.map (Value.int .i64) ++ [.int .i64 y]) = (xs ++ [y]).map (Value.int .i64) := by simp
        rw [this, List.getElem?_map, hj]; rfl
      rw [← htk] at e3
      have hj3 := lt_of_get e3
      rw [List.getElem?_take] at e3
      split at e3
      · rw [Nat.zero_add]; simpa using e3
      · cases e3
end Go.Proofs.YtfkmkpamdlhbgaaGreat
