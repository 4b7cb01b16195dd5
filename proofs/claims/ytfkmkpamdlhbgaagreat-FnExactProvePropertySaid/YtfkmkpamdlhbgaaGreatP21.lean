/- Parts of the proof: walks of functions and plain laws. -/
import Derived.Test.YtfkmkpamdlhbgaaGreatP20
namespace Go.Proofs.YtfkmkpamdlhbgaaGreat
open Go.RowKit
/-! symMerge -/
/-- a comparison by keys, of values in D; it may lay blocks -/
structure CmpOn (w0 : World) (g : Nat) (fid : FuncId) (caps : Array Value) (K : Int → Int) (D : Int → Prop) : Prop where
  call : ∀ x y, D x → D y → ∀ W, Only [g] w0 W → Calls Tryz.prog fid (#[.int .i64 x, .int .i64 y] ++ caps) W fun e w' => ∃ z, e = .returned (.int .i64 z) ∧ (z < 0 ↔ K x < K y) ∧ Since W w'
  enter : ∀ args w, (callFunc fid args).run Tryz.prog w = .ok (.enter fid args) w
theorem Sd.keepCell {w0 W : World} {base g c : Nat} {xs : List Int} (h : Sd w0 W base g c xs) {k : Nat} (hk : k < xs.length) : ∀ X, Since W X → X.cell? ⟨g, k, none⟩ = some (.int .i64 (xs.getD k 0)) := have_cell (h.cell hk)
theorem mid_bd {i j : Nat} (h : i < j) : i ≤ (i + j) / 2 ∧ (i + j) / 2 < j := by omega
theorem u64_val (s : Nat) (h : s ≤ 4000000) : IntKind.u64.wrap (s : Int) = (s : Int) := by
  unfold IntKind.wrap
  simp [IntKind.bits, IntKind.signed]
  omega
theorem mid_val (s : Nat) (h : s ≤ 4000000) : wrap64 ((s : Int) / 2) = ((s / 2 : Nat) : Int) := by
  unfold wrap64
  omega
theorem get_u {A U R : List Int} {k : Nat} (h : k < U.length) : (A ++ (U ++ R)).getD (A.length + k) 0 = U.getD k 0 := by
  rw [List.getD_eq_getElem?_getD, List.getD_eq_getElem?_getD, List.getElem?_append_right (by omega), show A.length + k - A.length = k by omega, List.getElem?_append_left h]
theorem get_v {A U V R : List Int} {k : Nat} (h : k < V.length) : (A ++ (U ++ (V ++ R))).getD (A.length + U.length + k) 0 = V.getD k 0 := by
  rw [← List.append_assoc, show A.length + U.length + k = (A ++ U).length + k by rw [List.length_append]]
  exact get_u h
theorem getD_mem0 {l : List Int} {k : Nat} (h : k < l.length) : l.getD k 0 ∈ l := by rw [List.getD_eq_getElem?_getD, List.getElem?_eq_getElem h]; exact List.getElem_mem h
theorem getD_lt {l : List Int} {k : Nat} (h : k < l.length) : l.getD k 0 = l[k] := by rw [List.getD_eq_getElem?_getD, List.getElem?_eq_getElem h]; rfl
set_option maxRecDepth 100000 in
set_option maxHeartbeats 800000 in
theorem symMerge_small (w0 : World) (base g c N : Nat) (fid : FuncId) (caps : Array Value) (K : Int → Int) (D : Int → Prop) (hc : CmpOn w0 g fid caps K D) (hl : N ≤ 1000000) (A U V B xs : List Int) (a m b : Nat) (w : World) (hx : xs = A ++ (U ++ (V ++ B))) (hs : Sd w0 w base g c xs) (hN : xs.length = N) (ha : A.length = a) (hm : a + U.length = m) (hb : m + V.length = b) (hU : 0 < U.length) (hV : 0 < V.length) (sU : Srt K U) (sV : Srt K V) (hD : ∀ x ∈ U ++ V, D x) (hsm : U.length = 1 ∨ V.length = 1) :
    Calls Tryz.prog 178 #[.slice (some ⟨g, 0, none⟩) N c, .int .i64 a, .int .i64 m, .int .i64 b, .func (.func fid) #[] caps] w fun e w' => e = .returned (.tuple #[]) ∧ ∃ W, Sd w0 w' base g c (A ++ (W ++ B)) ∧ W.Perm (U ++ V) ∧ Srt K W := by
  have eg := hc.enter
  have Hc := Lib.hid hc
  have Hs := Lib.hid hs
  have HN := Lib.hid hN
  have Hx := Lib.hid hx
  have Ha := Lib.hid ha
  have Hm := Lib.hid hm
  have Hb := Lib.hid hb
  have HsU := Lib.hid sU
  have HsV := Lib.hid sV
  have HD := Lib.hid hD
  have hbN : b ≤ N := by rw [← hN, hx]; simp only [List.length_append]; omega
  have hl0 : A.length + U.length + V.length + B.length = N := by rw [← hN, hx]; simp only [List.length_append]; omega
  have Hl0 := Lib.hid hl0
  have ham : a < m := by omega
  have hmb : m < b := by omega
  have m1 : IntKind.i64.wrap ((m : Int) - (a : Int)) = (U.length : Int) := by rw [wr64 _ (by omega) (by omega)]; omega
  have m2 : IntKind.i64.wrap ((b : Int) - (m : Int)) = (V.length : Int) := by rw [wr64 _ (by omega) (by omega)]; omega
  clear hs hN hx ha hm hb sU sV hD hc hl0
  go_enter Tryz.func178, Tryz.ntmps178
  by_cases h1 : U.length = 1
  · obtain ⟨x, rfl⟩ := List.length_eq_one_iff.1 h1
    have t0 : ((([x] : List Int).length : Int) = 1) = True := by simp
    go_wp2
    have HU1 : Hid (a + 1 = m) := Hm.out
    go_loopw [10, 11] (fun ti tj wr => ∃ (i j : Nat), ti = .int .i64 i ∧ tj = .int .i64 j ∧ m ≤ i ∧ i ≤ j ∧ j ≤ b ∧ (i = m ∨ K (V.getD (i - 1 - m) 0) < K x) ∧ (j = b ∨ K x ≤ K (V.getD (j - m) 0)) ∧ Sd w0 wr base g c xs) (fun ti tj _ => (intOf tj).toNat - (intOf ti).toNat)
    case atStart => exact ⟨m, b, rfl, rfl, Nat.le_refl _, by omega, Nat.le_refl _, .inl rfl, .inl rfl, Hs.out⟩
    case round =>
      obtain ⟨i, j, rfl, rfl, hi, hij, hj, hI, hJ, hs⟩ := hrel
      have HI := Lib.hid hI
      have HJ := Lib.hid hJ
      have Hs2 := Lib.hid hs
      clear hI hJ hs
      by_cases hlt : i < j
      · have e1 : IntKind.i64.wrap ((i : Int) + (j : Int)) = ((i + j : Nat) : Int) := by rw [wr64 _ (by omega) (by omega)]; omega
        obtain ⟨s, hsd⟩ : ∃ z, z = i + j := ⟨_, rfl⟩
        obtain ⟨h, hh⟩ : ∃ z, z = s / 2 := ⟨_, rfl⟩
        have e2 := mid_val s (by omega)
        rw [← hsd] at e1
        rw [← hh] at e2
        have e3 := u64_val s (by omega)
        have hhi : i ≤ h ∧ h < j := by rw [hh, hsd]; exact mid_bd hlt
        have Hhd := Lib.hid (And.intro hsd hh)
        clear hsd hh
        have c1 := Hs2.out.keepCell (k := h) (by rw [HN.out]; omega)
        have c2 := Hs2.out.keepCell (k := a) (by rw [HN.out]; omega)
        have hb' := Hb.out
        have hm' := HU1.out
        have ha' := Ha.out
        have hhV : h - m < V.length := by omega
        have hk1 : h = A.length + ([x] : List Int).length + (h - m) := by simp only [List.length_singleton]; omega
        have g1 : xs.getD h 0 = V.getD (h - m) 0 := by
          rw [Hx.out]
          exact (congrArg (fun k => List.getD _ k 0) hk1).trans (get_v hhV)
        have g2 : xs.getD a 0 = x := by
          rw [Hx.out]
          exact (congrArg (fun k => List.getD _ k 0) (show a = A.length + 0 by omega)).trans (get_u (by simp))
        rw [g1] at c1
        rw [g2] at c2
        obtain ⟨y, hy⟩ : ∃ z, z = V.getD (h - m) 0 := ⟨_, rfl⟩
        have hyV : y ∈ V := by rw [hy]; exact getD_mem0 hhV
        rw [← hy] at c1
        have Hy := Lib.hid hy
        have Hd := Lib.hid (And.intro (HD.out y (by simp [hyV])) (HD.out x (by simp)))
        clear hy g1 g2 hyV hk1 hb' hm' ha'
        have hhN : h < N := by omega
        have haN : a < N := by omega
        go_upto_region 5 with (fail)
        obtain ⟨wo, rfl⟩ : ∃ z, z = wr := ⟨_, rfl⟩
        refine wp_region_chain (w0 := wo) 10 [false, false, false, false, false, false, false, false, false, true] (by kernel_rfl) (by kernel_rfl) (since_refl _) ?_
        simp only [selF, selT, List.take_succ_cons, List.take_zero, List.drop_succ_cons, List.drop_zero]
        refine pflow_val (v := ?_) rfl ?_ ?_; rotate_left; (intro W hW; go_simp; with_reducible rfl)
        simp only [Act.put, List.setIfInBounds_toArray, List.set_cons_succ, List.set_cons_zero]
        refine pflow_val (v := ?_) rfl ?_ ?_; rotate_left; (intro W hW; go_simp; with_reducible rfl)
        simp only [Act.put, List.setIfInBounds_toArray, List.set_cons_succ, List.set_cons_zero]
        refine pflow_val (v := ?_) rfl ?_ ?_; rotate_left; (intro W hW; go_simp; with_reducible rfl)
        simp only [Act.put, List.setIfInBounds_toArray, List.set_cons_succ, List.set_cons_zero]
        refine pflow_val (v := ?_) rfl ?_ ?_; rotate_left; (intro W hW; go_simp; with_reducible rfl)
        simp only [Act.put, List.setIfInBounds_toArray, List.set_cons_succ, List.set_cons_zero]
        refine pflow_val (v := ?_) rfl ?_ ?_; rotate_left; (intro W hW; have k1 := c1 W hW; go_simp; with_reducible rfl)
        simp only [Act.put, List.setIfInBounds_toArray, List.set_cons_succ, List.set_cons_zero]
        refine pflow_val (v := ?_) rfl ?_ ?_; rotate_left; (intro W hW; go_simp; with_reducible rfl)
        simp only [Act.put, List.setIfInBounds_toArray, List.set_cons_succ, List.set_cons_zero]
        refine pflow_val (v := ?_) rfl ?_ ?_; rotate_left; (intro W hW; go_simp; with_reducible rfl)
        simp only [Act.put, List.setIfInBounds_toArray, List.set_cons_succ, List.set_cons_zero]
        refine pflow_val (v := ?_) rfl ?_ ?_; rotate_left; (intro W hW; go_simp; with_reducible rfl)
        simp only [Act.put, List.setIfInBounds_toArray, List.set_cons_succ, List.set_cons_zero]
        refine pflow_val (v := ?_) rfl ?_ ?_; rotate_left; (intro W hW; have k2 := c2 W hW; go_simp; with_reducible rfl)
        simp only [Act.put, List.setIfInBounds_toArray, List.set_cons_succ, List.set_cons_zero]
        intro W hW
        refine Or.inl ⟨rfl, ?_⟩
        go_simp
        (with_reducible refine (Hc.out.call y x Hd.out.1 Hd.out.2 W (Hs2.out.since hW).only).mono ?_)
        rintro e W' ⟨z, rfl, hz, hb⟩
        refine ⟨_, rfl, hW.after hb, ?_⟩
        replace hW := hW.after hb
        (try simp only [Act.put, List.setIfInBounds_toArray, List.set_cons_succ, List.set_cons_zero])
        simp only [TFlow]
        have Hs3 := Lib.hid (Hs2.out.since hW)
        clear hW hb c1 c2
        by_cases hlt2 : K y < K x
        · have hz2 : (z < 0) = True := by simp [hz.2 hlt2]
          have Hz := Lib.hid hz
          clear hz
          have e5 : IntKind.i64.wrap ((h : Int) + 1) = ((h + 1 : Nat) : Int) := by rw [wr64 _ (by omega) (by omega)]; omega
          obtain ⟨h1', hh1⟩ : ∃ z, z = h + 1 := ⟨_, rfl⟩
          rw [← hh1] at e5
          have Hh1 := Lib.hid hh1
          clear hh1
          go_wp2
          go_roundw
          case rel => exact ⟨h1', j, by first | rfl | go_num, by first | rfl | go_num, by have := Hh1.out; omega, by have := Hh1.out; omega, hj, .inr (by rw [Hh1.out, show h + 1 - 1 - m = h - m by omega, ← Hy.out]; exact hlt2), HJ.out, Hs3.out⟩
          case measure => have := Hh1.out; simp [intOf]; omega
        · have hz2 : (z < 0) = False := by rw [hz]; simp; omega
          have Hz := Lib.hid hz
          clear hz
          go_wp2
          go_roundw
          case rel => exact ⟨i, h, by first | rfl | go_num, by first | rfl | go_num, hi, hhi.1, by omega, HI.out, .inr (by rw [← Hy.out]; omega), Hs3.out⟩
          case measure => simp [intOf]; omega
      · obtain rfl : i = j := by omega
        have hm' := HU1.out
        have hb' := Hb.out
        have Hins : Hid (Srt K (V.take (i - m) ++ x :: V.drop (i - m))) := by
          refine ins_srt HsV.out (by omega) ?_ ?_
          · rcases HI.out with h9 | h9
            · exact .inl (by omega)
            · by_cases e0 : i = m
              · exact .inl (by omega)
              · refine .inr ⟨by omega, ?_⟩
                rw [getD_lt (by omega)] at h9
                simp only [show i - m - 1 = i - 1 - m by omega]
                omega
          · rcases HJ.out with h9 | h9
            · exact .inl (by omega)
            · by_cases e0 : i = b
              · exact .inl (by omega)
              · refine .inr ⟨by omega, ?_⟩
                rw [getD_lt (by omega)] at h9
                exact h9
        have H0 : Hid (Sd w0 wr base g c (insU A x V B 0)) := by show Sd _ _ _ _ _ _; rw [insU_zero, ← Hx.out]; exact Hs2.out
        have hlen : ∀ t, (insU A x V B t).length = N := fun t => by
          rw [← Hl0.out]; unfold insU; simp only [List.length_append, List.length_cons, List.length_take, List.length_drop, List.length_nil]; omega
        have Hlen := Lib.hid hlen
        have e1 : IntKind.i64.wrap ((i : Int) - 1) = (i : Int) - 1 := wr64 _ (by omega) (by omega)
        obtain ⟨wo, rfl⟩ : ∃ z, z = wr := ⟨_, rfl⟩
        clear hlen hlt Hs2 hm' hb'
        go_wp2
        go_loopw [13] (fun tk wr => ∃ (t : Nat), tk = .int .i64 ((a + t : Nat) : Int) ∧ t ≤ i - m ∧ Sd w0 wr base g c (insU A x V B t)) (fun tk _ => i - (intOf tk).toNat)
        case atStart => exact ⟨0, rfl, Nat.zero_le _, H0.out⟩
        case round =>
          obtain ⟨t, rfl, ht, hs⟩ := hrel
          by_cases hlt : t < i - m
          · have m3 : IntKind.i64.wrap (((a + t : Nat) : Int) + 1) = ((a + t + 1 : Nat) : Int) := by have := HU1.out; rw [wr64 _ (by omega) (by omega)]; omega
            have c1 := hs.cell (k := a + t) (by rw [Hlen.out]; have := HU1.out; omega)
            have c2 := hs.cell (k := a + t + 1) (by rw [Hlen.out]; have := HU1.out; omega)
            have f1 := hs.own.free (a + t)
            have f2 := hs.own.free (a + t + 1)
            have hsw := hs.swap (a + t) (a + t + 1)
            rw [show swp (insU A x V B t) (a + t) (a + t + 1) = insU A x V B (t + 1) by rw [← Ha.out]; exact insU_step A x V B (by have := Hb.out; omega)] at hsw
            obtain ⟨y1, hy1⟩ : ∃ z, z = (insU A x V B t).getD (a + t) 0 := ⟨_, rfl⟩
            obtain ⟨y2, hy2⟩ : ∃ z, z = (insU A x V B t).getD (a + t + 1) 0 := ⟨_, rfl⟩
            rw [← hy1] at c1 hsw
            rw [← hy2] at c2 hsw
            have hb1 : a + t < N := by have := HU1.out; omega
            have hb2 : a + t + 1 < N := by have := HU1.out; omega
            have hgo : ((a + t : Nat) : Int) < (i : Int) - 1 := by have := HU1.out; omega
            obtain ⟨p, hp⟩ : ∃ z, z = a + t := ⟨_, rfl⟩
            obtain ⟨q, hq⟩ : ∃ z, z = a + t + 1 := ⟨_, rfl⟩
            rw [← hp] at c1 f1 hb1 m3 hsw hgo ⊢
            rw [hp, ← hq, ← hp] at m3 hsw
            rw [← hq] at c2 f2 hb2
            have Hsw := Lib.hid hsw
            have Hpq := Lib.hid (And.intro hp hq)
            have hpq : p ≠ q := by omega
            clear hsw hs hy1 hy2 hp hq
            go_upto_region 11 with (fail)
            go_region
            obtain ⟨w2, hw2⟩ : ∃ z, z = (wr.setCell ⟨g, p, none⟩ (.int .i64 y2)).setCell ⟨g, q, none⟩ (.int .i64 y1) := ⟨_, rfl⟩
            rw [← hw2] at Hsw ⊢
            clear hw2 c1 c2 f1 f2
            go_wp2
            go_roundw
            case rel => exact ⟨t + 1, by rw [Hpq.out.2]; first | rfl | go_num, by omega, Hsw.out.drew⟩
            case measure => have := Hpq.out; simp [intOf]; omega
          · obtain rfl : t = i - m := by omega
            have Hs3 := Lib.hid hs
            have hgo : ¬ ((a + (i - m) : Nat) : Int) < (i : Int) - 1 := by have := HU1.out; omega
            clear hs
            go_wp2
            refine bodyPost_ret (results_none rfl _ _ _) rfl ?_
            refine ⟨rfl, V.take (i - m) ++ x :: V.drop (i - m), ?_, ins_perm x V (i - m), Hins.out⟩
            have h9 := Hs3.out
            unfold insU at h9
            simp only [List.append_assoc, List.cons_append] at h9 ⊢
            exact h9
  · have t0 : ((U.length : Int) = 1) = False := by simp; omega
    have t0' : (U.length = 1) = False := by simp; omega
    have t0b : ((U.length : Int) == 1) = false := beq_eq_false_iff_ne.2 (by omega)
    by_cases h2 : V.length = 1
    · obtain ⟨x, rfl⟩ := List.length_eq_one_iff.1 h2
      have t1 : ((([x] : List Int).length : Int) = 1) = True := by simp
      have HV1 : Hid (m + 1 = b) := Hb.out
      go_wp2
      go_loopw [14, 15] (fun ti tj wr => ∃ (i j : Nat), ti = .int .i64 i ∧ tj = .int .i64 j ∧ a ≤ i ∧ i ≤ j ∧ j ≤ m ∧ (i = a ∨ K (U.getD (i - 1 - a) 0) ≤ K x) ∧ (j = m ∨ K x < K (U.getD (j - a) 0)) ∧ Sd w0 wr base g c xs) (fun ti tj _ => (intOf tj).toNat - (intOf ti).toNat)
      case atStart => exact ⟨a, m, rfl, rfl, Nat.le_refl _, by omega, Nat.le_refl _, .inl rfl, .inl rfl, Hs.out⟩
      case round =>
        obtain ⟨i, j, rfl, rfl, hi, hij, hj, hI, hJ, hs⟩ := hrel
        have HI := Lib.hid hI
        have HJ := Lib.hid hJ
        have Hs2 := Lib.hid hs
        clear hI hJ hs
        by_cases hlt : i < j
        · have e1 : IntKind.i64.wrap ((i : Int) + (j : Int)) = ((i + j : Nat) : Int) := by rw [wr64 _ (by omega) (by omega)]; omega
          obtain ⟨s, hsd⟩ : ∃ z, z = i + j := ⟨_, rfl⟩
          obtain ⟨h, hh⟩ : ∃ z, z = s / 2 := ⟨_, rfl⟩
          have e2 := mid_val s (by omega)
          rw [← hsd] at e1
          rw [← hh] at e2
          have e3 := u64_val s (by omega)
          have hhi : i ≤ h ∧ h < j := by rw [hh, hsd]; exact mid_bd hlt
          have Hhd := Lib.hid (And.intro hsd hh)
          clear hsd hh
          have c1 := Hs2.out.keepCell (k := h) (by rw [HN.out]; omega)
          have c2 := Hs2.out.keepCell (k := m) (by rw [HN.out]; omega)
          have hb' := HV1.out
          have hm' := Hm.out
          have ha' := Ha.out
          have hhV : h - a < U.length := by omega
          have hk1 : h = A.length + (h - a) := by omega
          have g1 : xs.getD h 0 = U.getD (h - a) 0 := by
            rw [Hx.out]
            exact (congrArg (fun k => List.getD _ k 0) hk1).trans (get_u hhV)
          have g2 : xs.getD m 0 = x := by
            rw [Hx.out]
            exact (congrArg (fun k => List.getD _ k 0) (show m = A.length + U.length + 0 by omega)).trans (get_v (by simp))
          rw [g1] at c1
          rw [g2] at c2
          obtain ⟨y, hy⟩ : ∃ z, z = U.getD (h - a) 0 := ⟨_, rfl⟩
          have hyV : y ∈ U := by rw [hy]; exact getD_mem0 hhV
          rw [← hy] at c1
          have Hy := Lib.hid hy
          have Hd := Lib.hid (And.intro (HD.out y (by simp [hyV])) (HD.out x (by simp)))
          clear hy g1 g2 hyV hk1 hb' hm' ha'
          have hhN : h < N := by omega
          have haN : m < N := by omega
          go_upto_region 17 with (fail)
          obtain ⟨wo, rfl⟩ : ∃ z, z = wr := ⟨_, rfl⟩
          refine wp_region_chain (w0 := wo) 10 [false, false, false, false, false, false, false, false, false, true] (by kernel_rfl) (by kernel_rfl) (since_refl _) ?_
          simp only [selF, selT, List.take_succ_cons, List.take_zero, List.drop_succ_cons, List.drop_zero]
          refine pflow_val (v := ?_) rfl ?_ ?_; rotate_left; (intro W hW; go_simp; with_reducible rfl)
          simp only [Act.put, List.setIfInBounds_toArray, List.set_cons_succ, List.set_cons_zero]
          refine pflow_val (v := ?_) rfl ?_ ?_; rotate_left; (intro W hW; go_simp; with_reducible rfl)
          simp only [Act.put, List.setIfInBounds_toArray, List.set_cons_succ, List.set_cons_zero]
          refine pflow_val (v := ?_) rfl ?_ ?_; rotate_left; (intro W hW; go_simp; with_reducible rfl)
          simp only [Act.put, List.setIfInBounds_toArray, List.set_cons_succ, List.set_cons_zero]
          refine pflow_val (v := ?_) rfl ?_ ?_; rotate_left; (intro W hW; go_simp; with_reducible rfl)
          simp only [Act.put, List.setIfInBounds_toArray, List.set_cons_succ, List.set_cons_zero]
          refine pflow_val (v := ?_) rfl ?_ ?_; rotate_left; (intro W hW; have k1 := c2 W hW; go_simp; with_reducible rfl)
          simp only [Act.put, List.setIfInBounds_toArray, List.set_cons_succ, List.set_cons_zero]
          refine pflow_val (v := ?_) rfl ?_ ?_; rotate_left; (intro W hW; go_simp; with_reducible rfl)
          simp only [Act.put, List.setIfInBounds_toArray, List.set_cons_succ, List.set_cons_zero]
          refine pflow_val (v := ?_) rfl ?_ ?_; rotate_left; (intro W hW; go_simp; with_reducible rfl)
          simp only [Act.put, List.setIfInBounds_toArray, List.set_cons_succ, List.set_cons_zero]
          refine pflow_val (v := ?_) rfl ?_ ?_; rotate_left; (intro W hW; go_simp; with_reducible rfl)
          simp only [Act.put, List.setIfInBounds_toArray, List.set_cons_succ, List.set_cons_zero]
          refine pflow_val (v := ?_) rfl ?_ ?_; rotate_left; (intro W hW; have k2 := c1 W hW; go_simp; with_reducible rfl)
          simp only [Act.put, List.setIfInBounds_toArray, List.set_cons_succ, List.set_cons_zero]
          intro W hW
          refine Or.inl ⟨rfl, ?_⟩
          go_simp
          (with_reducible refine (Hc.out.call x y Hd.out.2 Hd.out.1 W (Hs2.out.since hW).only).mono ?_)
          rintro e W' ⟨z, rfl, hz, hb⟩
          refine ⟨_, rfl, hW.after hb, ?_⟩
          replace hW := hW.after hb
          (try simp only [Act.put, List.setIfInBounds_toArray, List.set_cons_succ, List.set_cons_zero])
          simp only [TFlow]
          have Hs3 := Lib.hid (Hs2.out.since hW)
          clear hW hb c1 c2
          by_cases hlt2 : K x < K y
          · have hz2 : (z < 0) = True := by simp [hz.2 hlt2]
            have Hz := Lib.hid hz
            clear hz
            go_wp2
            go_roundw
            case rel => exact ⟨i, h, by first | rfl | go_num, by first | rfl | go_num, hi, hhi.1, by omega, HI.out, .inr (by rw [← Hy.out]; exact hlt2), Hs3.out⟩
            case measure => simp [intOf]; omega
          · have hz2 : (z < 0) = False := by rw [hz]; simp; omega
            have Hz := Lib.hid hz
            clear hz
            have e5 : IntKind.i64.wrap ((h : Int) + 1) = ((h + 1 : Nat) : Int) := by rw [wr64 _ (by omega) (by omega)]; omega
            obtain ⟨h1', hh1⟩ : ∃ z, z = h + 1 := ⟨_, rfl⟩
            rw [← hh1] at e5
            have Hh1 := Lib.hid hh1
            clear hh1
            go_wp2
            go_roundw
            case rel => exact ⟨h1', j, by first | rfl | go_num, by first | rfl | go_num, by have := Hh1.out; omega, by have := Hh1.out; omega, hj, .inr (by rw [Hh1.out, show h + 1 - 1 - a = h - a by omega, ← Hy.out]; omega), HJ.out, Hs3.out⟩
            case measure => have := Hh1.out; simp [intOf]; omega
        · obtain rfl : i = j := by omega
          have hm' := HV1.out
          have hb' := Hm.out
          have Hins : Hid (Srt K (U.take (i - a) ++ x :: U.drop (i - a))) := by
            refine ins_srt HsU.out (by omega) ?_ ?_
            · rcases HI.out with h9 | h9
              · exact .inl (by omega)
              · by_cases e0 : i = a
                · exact .inl (by omega)
                · refine .inr ⟨by omega, ?_⟩
                  rw [getD_lt (by omega)] at h9
                  simp only [show i - a - 1 = i - 1 - a by omega]
                  exact h9
            · rcases HJ.out with h9 | h9
              · exact .inl (by omega)
              · by_cases e0 : i = m
                · exact .inl (by omega)
                · refine .inr ⟨by omega, ?_⟩
                  rw [getD_lt (by omega)] at h9
                  omega
          have H0 : Hid (Sd w0 wr base g c (insU A x U B U.length)) := by show Sd _ _ _ _ _ _; rw [insU_end, ← Hx.out]; exact Hs2.out
          have hlen : ∀ t, (insU A x U B t).length = N := fun t => by
            rw [← Hl0.out]; unfold insU; simp only [List.length_append, List.length_cons, List.length_take, List.length_drop, List.length_nil]; omega
          have Hlen := Lib.hid hlen
          obtain ⟨wo, rfl⟩ : ∃ z, z = wr := ⟨_, rfl⟩
          clear hlen hlt Hs2 hm' hb'
          go_wp2
          go_loopw [17] (fun tk wr => ∃ (t : Nat), tk = .int .i64 ((a + t : Nat) : Int) ∧ i - a ≤ t ∧ t ≤ U.length ∧ Sd w0 wr base g c (insU A x U B t)) (fun tk _ => (intOf tk).toNat)
          case atStart => exact ⟨U.length, by rw [← Hm.out], by have := Hm.out; omega, Nat.le_refl _, H0.out⟩
          case round =>
            obtain ⟨t, rfl, ht, ht2, hs⟩ := hrel
            by_cases hlt : i - a < t
            · obtain ⟨r, rfl⟩ : ∃ r, t = r + 1 := ⟨t - 1, by omega⟩
              have m3 : IntKind.i64.wrap (((a + (r + 1) : Nat) : Int) - 1) = ((a + r : Nat) : Int) := by have := Hm.out; rw [wr64 _ (by omega) (by omega)]; omega
              have c1 := hs.cell (k := a + (r + 1)) (by rw [Hlen.out]; have := Hm.out; omega)
              have c2 := hs.cell (k := a + r) (by rw [Hlen.out]; have := Hm.out; omega)
              have f1 := hs.own.free (a + (r + 1))
              have f2 := hs.own.free (a + r)
              have hsw := hs.swap (a + (r + 1)) (a + r)
              rw [show swp (insU A x U B (r + 1)) (a + (r + 1)) (a + r) = insU A x U B r by rw [← Ha.out]; exact insU_down A x U B (by omega)] at hsw
              obtain ⟨y1, hy1⟩ : ∃ z, z = (insU A x U B (r + 1)).getD (a + (r + 1)) 0 := ⟨_, rfl⟩
              obtain ⟨y2, hy2⟩ : ∃ z, z = (insU A x U B (r + 1)).getD (a + r) 0 := ⟨_, rfl⟩
              rw [← hy1] at c1 hsw
              rw [← hy2] at c2 hsw
              have hb1 : a + (r + 1) < N := by have := Hm.out; omega
              have hb2 : a + r < N := by have := Hm.out; omega
              have hgo : (i : Int) < ((a + (r + 1) : Nat) : Int) := by omega
              obtain ⟨p, hp⟩ : ∃ z, z = a + (r + 1) := ⟨_, rfl⟩
              obtain ⟨q, hq⟩ : ∃ z, z = a + r := ⟨_, rfl⟩
              rw [← hp] at c1 f1 hb1 m3 hsw hgo ⊢
              rw [← hq] at c2 f2 hb2 m3 hsw
              have Hsw := Lib.hid hsw
              have Hpq := Lib.hid (And.intro hp hq)
              have hpq : p ≠ q := by omega
              clear hsw hs hy1 hy2 hp hq
              go_upto_region 23 with (fail)
              go_region
              obtain ⟨w2, hw2⟩ : ∃ z, z = (wr.setCell ⟨g, p, none⟩ (.int .i64 y2)).setCell ⟨g, q, none⟩ (.int .i64 y1) := ⟨_, rfl⟩
              rw [← hw2] at Hsw ⊢
              clear hw2 c1 c2 f1 f2
              go_wp2
              go_roundw
              case rel => exact ⟨r, by first | (rw [Hpq.out.2]; done) | (rw [Hpq.out.2]; go_num), by omega, by omega, Hsw.out.drew⟩
              case measure => have := Hpq.out; first | (simp [intOf]; done) | (simp [intOf]; omega)
            · obtain rfl : t = i - a := by omega
              have Hs3 := Lib.hid hs
              have hgo : ¬ (i : Int) < ((a + (i - a) : Nat) : Int) := by omega
              clear hs
              go_wp2
              refine bodyPost_ret (results_none rfl _ _ _) rfl ?_
              refine ⟨rfl, U.take (i - a) ++ x :: U.drop (i - a), ?_, (ins_perm x U (i - a)).trans List.perm_append_comm, Hins.out⟩
              have h9 := Hs3.out
              unfold insU at h9
              simp only [List.append_assoc, List.cons_append] at h9 ⊢
              exact h9
    · omega
end Go.Proofs.YtfkmkpamdlhbgaaGreat
