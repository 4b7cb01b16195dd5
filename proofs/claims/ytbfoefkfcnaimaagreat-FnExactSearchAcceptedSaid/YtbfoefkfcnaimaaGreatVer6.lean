import Derived.Test.YtbfoefkfcnaimaaGreatVer5
import Derived.Test.YtbfoefkfcnaimaaGreatVer3
import Derived.Test.YtbfoefkfcnaimaaGreatFlow5
import Derived.Test.YtbfoefkfcnaimaaGreatGood
import Derived.Test.YtbfoefkfcnaimaaGreatLawKit
import Derived.Test.YtbfoefkfcnaimaaGreatPort
namespace Go.Proofs.YtbfoefkfcnaimaaGreat
open Go.RowKit
set_option maxHeartbeats 2000000 in
theorem indexI_any (v : Value) (xs : List Int) (x : Int) (w : World) (h : IntS w v xs) :
    Calls Tryz.prog 74 #[v, .int .i64 x] w fun e w' => ∃ i : Int, e = .returned (.int .i64 i) ∧ decide (0 ≤ i) = hasB xs x ∧ w = w' := by
  obtain ⟨A, c, rfl, hlc, hm, hA⟩ := h
  unfold maxLen at hm
  have HA := Lib.hid hA
  clear hA
  go_enter Tryz.func74, Tryz.ntmps74
  go_wp2
  go_loop [8] (fun i => ∃ k : Nat, k ≤ xs.length ∧ i = .int .i64 k ∧ x ∉ xs.take k) (fun i => xs.length - (intOf i).toNat)
  case atStart => exact ⟨0, Nat.zero_le _, rfl, by simp⟩
  case round =>
    obtain ⟨k, hk, rfl, hno⟩ := hrel
    have Hno := Lib.hid hno
    clear hno
    by_cases hlt : k < xs.length
    · obtain ⟨y, hy⟩ := getx xs k hlt
      obtain ⟨b, off, rfl, hcell⟩ := HA.out k y hy
      have Hy := Lib.hid hy
      clear hy
      cases hxy : (x == y)
      · have Hxy := Lib.hid hxy
        go_wp2
        go_round
        case rel =>
          refine ⟨k + 1, by omega, by go_num, ?_⟩
          rw [take_snoc Hy.out]
          simp only [List.mem_append, List.mem_singleton, not_or]
          exact ⟨Hno.out, by simpa using Hxy.out⟩
        case measure => simp [intOf]; omega
      · have Hxy := Lib.hid hxy
        go_wp2
        go_ret
        refine ⟨_, rfl, ?_, rfl⟩
        have e : x = y := by simpa using Hxy.out
        rw [e]
        unfold hasB
        simp [List.mem_of_getElem? Hy.out]
    · go_wp2
      go_ret
      refine ⟨_, rfl, ?_, rfl⟩
      have := Hno.out
      rw [take_all xs hlt] at this
      unfold hasB
      simpa using this
theorem containsI_any (v : Value) (xs : List Int) (x : Int) (w : World) (h : IntS w v xs) :
    Calls Tryz.prog 59 #[v, .int .i64 x] w fun e w' => e = .returned (.bool (hasB xs x)) ∧ w = w' := by
  have H := Lib.hid h
  obtain ⟨A, c, rfl, hlc, hm, hA⟩ := h
  clear hA
  go_enter Tryz.func59, Tryz.ntmps59
  go_wp2_with fail
  refine (indexI_any _ xs x _ H.out).mono ?_
  rintro e w1 ⟨i, rfl, hi, rfl⟩
  have Hi := Lib.hid hi
  clear hi
  go_wp2
  go_ret
  exact ⟨ret_bool Hi.out, rfl⟩
/-- a node accepts -/
def accB (n : Net) (s : Int) (ls : List Int) (l idk ink : Int) (es : List (Int × Int)) : Bool :=
  if s = 1 then decide (l ≤ 1) && !((nearB ls es).any fun x => x != 1 - l)
  else if s = 2 then decide (l ≤ 2) && !hasB (nearB ls es) l
  else if s = 3 then forI l (nearB ls es)
  else if s = 4 then decide (n.ids.length ≠ 0) && leadB idk ink ls l es
  else decide (n.ids.length ≠ 0) && evenB idk ls l es
theorem acc1_enters : ∀ args w, (callFunc 58 args).run Tryz.prog w = .ok (.enter 58 args) w := enters_of Tryz.func58 (by kernel_rfl) rfl
theorem acc1_any (x l : Int) (b : Nat) (w : World) (h0 : 0 ≤ l) (h1 : l ≤ 999999999999) (hc : w.cell? ⟨b, 0, none⟩ = some (.int .i64 l)) :
    Calls Tryz.prog 58 #[.int .i64 x, .pointer (some ⟨b, 0, none⟩)] w fun e w' => e = .returned (.bool (x != 1 - l)) ∧ w = w' := by
  go_enter Tryz.func58, Tryz.ntmps58
  go_wp2
  go_ret
  exact ⟨rfl, rfl⟩
theorem acc1_pred (l : Int) (b : Nat) (w : World) (xs : List Int) (h0 : 0 ≤ l) (h1 : l ≤ 999999999999) (hc : w.cell? ⟨b, 0, none⟩ = some (.int .i64 l)) : PredOn w 58 #[.pointer (some ⟨b, 0, none⟩)] (fun x => x != 1 - l) xs := by
  intro x _ X hX
  exact (acc1_any x l b X h0 h1 (bc hX hc)).mono fun _ _ ⟨he, hw⟩ => ⟨he, hw ▸ Below.refl _ _⟩
set_option maxRecDepth 100000 in
set_option maxHeartbeats 8000000 in
theorem accepts_any (ve vi vn vl : Value) (n : Net) (s : Int) (ls : List Int) (k : Nat) (es : List (Int × Int)) (l idk ink : Int) (w : World) (h : NetIn w ve vi vn n) (hl : IntS w vl ls) (hs1 : 1 ≤ s) (hs5 : s ≤ 5) (hes : n.ends[k]? = some es) (hle : es.length ≤ 6) (hin : ∀ e ∈ es, 0 ≤ e.1 ∧ e.1 < ls.length)
    (hlb : ∀ x ∈ l :: nearB ls es, 0 ≤ x ∧ x ≤ 999999999999) (hk : ls[k]? = some l) (hid : n.ids.length ≠ 0 → n.ids[k]? = some idk) (hinp : n.inputs[k]? = some ink) :
    Calls Tryz.prog 40 #[.agg #[ve, vi, vn], .int .i64 s, vl, .int .i64 k] w fun e w' => e = .returned (.bool (accB n s ls l idk ink es)) ∧ Below w.heap.size w w' := by
  obtain ⟨w0, hw0⟩ : ∃ w0, w0 = (w).alloc (.cells #[ve, vi, vn] 31) := ⟨_, rfl⟩
  have hb0 : Below w.heap.size w w0 := by rw [hw0]; exact ((Below.refl _ _).alloc (by simp) _)
  have H := Lib.hid (h.keep hb0)
  obtain ⟨h1, h2, h3⟩ := h.keep hb0
  obtain ⟨A, c, rfl, hlc, hm, hA⟩ := h1
  obtain ⟨A2, c2, rfl, _, hm2, _⟩ := h2
  obtain ⟨A3, c3, rfl, _, hm3, _⟩ := h3
  unfold maxLen at hm hm2 hm3
  have p00 : ∀ W, Since w0 W → W.cell? ⟨w.heap.size, 0, none⟩ = some (.slice A n.ends.length c) := have_cell (by rw [hw0]; simp)
  have p01 : ∀ W, Since w0 W → W.cell? ⟨w.heap.size, 1, none⟩ = some (.slice A2 n.ids.length c2) := have_cell (by rw [hw0]; simp)
  have p02 : ∀ W, Since w0 W → W.cell? ⟨w.heap.size, 2, none⟩ = some (.slice A3 n.inputs.length c3) := have_cell (by rw [hw0]; simp)
  have Hb0 := Lib.hid hb0
  have Hw0 := Lib.hid hw0
  have HA := Lib.hid hA
  clear hA h
  clear hb0 hw0
  have HL := Lib.hid (hl.keep Hb0.out)
  obtain ⟨_, bl, ol, cl, l', e0, rfl, hkl, hk', -, hd⟩ := lab_at HL.out (x := (k : Int)) (by omega) (by have := lt_of_get hk; omega)
  obtain rfl : k = _ := by exact Int.ofNat.inj e0
  obtain rfl : l = l' := Option.some.inj (hk.symm.trans hk')
  obtain ⟨_, _, hv, hlL, hmL, _⟩ := id hl
  cases hv
  unfold maxLen at hmL
  obtain ⟨lb0, lb1⟩ := hlb l (by simp)
  have t0 := have_cell hd
  have Hes := Lib.hid hes
  have Hin := Lib.hid hin
  have Hlb := Lib.hid hlb
  have Hk := Lib.hid hk
  have Hid' := Lib.hid hid
  have Hinp := Lib.hid hinp
  clear hd hk hk' e0 hl hes hin hlb hid hinp
  go_enter Tryz.func40, Tryz.ntmps40
  go_upto_region 1 with (fail)
  rw [← Hw0.out]
  refine wp_region_near (w0 := w0) 7 9 14 18 10 l (nearB ls es) (by kernel_rfl) (by kernel_rfl) rfl (since_refl _) rfl rfl ⟨_, _, _, rfl⟩ ⟨_, _, _, rfl⟩ ⟨_, _, _, rfl⟩ (by decide) (by simp) (by simp) ?_
  simp only [List.take_succ_cons, List.take_zero]
  iterate 7 (refine pflow_val (v := ?_) rfl ?_ ?_; rotate_left; (intro W hW; go_simp; with_reducible rfl); simp only [Act.put, List.setIfInBounds_toArray, List.set_cons_succ, List.set_cons_zero])
  refine ⟨rfl, ⟨rfl, fun W hW => ?_⟩, ?_⟩
  · unfold GivesAny
    go_simp
    refine (near_any _ _ _ _ n ls k es W (H.out.keep hW.below) (HL.out.keep hW.below) Hes.out (by omega) Hin.out).mono ?_
    rintro e W' ⟨u, rfl, ho, hb⟩
    exact ⟨u, rfl, ho, hb⟩
  intro u b W hW ho hI
  simp only [Act.put, List.setIfInBounds_toArray, List.set_cons_succ, List.set_cons_zero]
  have hlen : (nearB ls es).length = es.length := by simp [nearB]
  have HU := Lib.hid (show ∀ X, Since W X → IntS X u (nearB ls es) from fun X hX => ho.ints.keep hX.below)
  obtain ⟨Bu, du, hu, _⟩ := id ho.ints
  rw [hlen] at hu
  have q0 := have_cell hI.cells.1
  have HW := Lib.hid hW
  have Hlen := Lib.hid hlen
  rw [hu]
  rw [hu] at HU
  have hsX : Since W W := since_refl _
  have p00 := lift_cell p00 hW
  have p01 := lift_cell p01 hW
  have p02 := lift_cell p02 hW
  unfold ptr
  clear ho hI hW hlen hu t0
  by_cases c1 : s = 1
  · subst c1
    have hr := Lib.hid (show accB n 1 ls l idk ink es = (decide (l ≤ 1) && !((nearB ls es).any fun x => x != 1 - l)) by simp [accB])
    go_upto_region 4 with (fail)
    clear hsX
    refine wp_region_flow0 8 (Since W) (since_refl _) ?_
    simp only [List.take_succ_cons, List.take_zero, List.drop_succ_cons, List.drop_zero]
    refine flow_val (v := ?_) rfl ?_ ?_; rotate_left; (intro W hW; go_simp; with_reducible rfl)
    simp only [Act.put, List.setIfInBounds_toArray, List.set_cons_succ, List.set_cons_zero]
    refine flow_val (v := ?_) rfl ?_ ?_; rotate_left; (intro W hW; go_simp; with_reducible rfl)
    simp only [Act.put, List.setIfInBounds_toArray, List.set_cons_succ, List.set_cons_zero]
    refine flow_val (v := ?_) rfl ?_ ?_; rotate_left; (intro W hW; go_simp; with_reducible rfl)
    simp only [Act.put, List.setIfInBounds_toArray, List.set_cons_succ, List.set_cons_zero]
    refine flow_gval (v := ?_) rfl rfl ?_ ?_; rotate_left; (intro hb W hW; go_simp; with_reducible rfl)
    simp only [Act.put, List.setIfInBounds_toArray, List.set_cons_succ, List.set_cons_zero]
    refine flow_gval (v := ?_) rfl rfl ?_ ?_; rotate_left; (intro hb W hW; go_simp; with_reducible rfl)
    simp only [Act.put, List.setIfInBounds_toArray, List.set_cons_succ, List.set_cons_zero]
    refine flow_gop (v := ?_) rfl rfl ?_ ?_; rotate_left; (intro hb W hW; unfold Gives; go_simp; (with_reducible refine (containsFunc_any _ (nearB ls es) _ _ (fun x => x != 1 - l) W (HU.out W hW) acc1_enters (acc1_pred l b W (nearB ls es) lb0 lb1 (q0 W hW))).mono ?_); rintro e W' ⟨rfl, hb3⟩; first | (refine ⟨?_, Since.trans hW hb3⟩; with_reducible rfl) | (subst hb3; refine ⟨?_, hW⟩; with_reducible rfl))
    simp only [Act.put, List.setIfInBounds_toArray, List.set_cons_succ, List.set_cons_zero]
    refine flow_gval (v := ?_) rfl rfl ?_ ?_; rotate_left; (intro hb W hW; go_simp; with_reducible rfl)
    simp only [Act.put, List.setIfInBounds_toArray, List.set_cons_succ, List.set_cons_zero]
    first | refine flow_and rfl rfl ?_ | (refine flow_val (v := ?_) rfl ?_ ?_; rotate_left; (intro W hW; go_simp; with_reducible rfl))
    simp only [Act.put, List.setIfInBounds_toArray, List.set_cons_succ, List.set_cons_zero]
    intro W5 hW5
    have HW5 := Lib.hid hW5
    clear hW5
    go_wp2
    go_ret
    exact ⟨ret_bool hr.out.symm, Since.after Hb0.out (HW.out.after HW5.out)⟩
  · have c1' : (s == 1) = false := by simpa using c1
    by_cases c2 : s = 2
    · subst c2
      have hr := Lib.hid (show accB n 2 ls l idk ink es = (decide (l ≤ 2) && !hasB (nearB ls es) l) by simp [accB])
      clear c1 c1'
      go_upto_region 6 with (fail)
      clear hsX
      refine wp_region_flow0 9 (Since W) (since_refl _) ?_
      simp only [List.take_succ_cons, List.take_zero, List.drop_succ_cons, List.drop_zero]
      refine flow_val (v := ?_) rfl ?_ ?_; rotate_left; (intro W hW; go_simp; with_reducible rfl)
      simp only [Act.put, List.setIfInBounds_toArray, List.set_cons_succ, List.set_cons_zero]
      refine flow_val (v := ?_) rfl ?_ ?_; rotate_left; (intro W hW; go_simp; with_reducible rfl)
      simp only [Act.put, List.setIfInBounds_toArray, List.set_cons_succ, List.set_cons_zero]
      refine flow_val (v := ?_) rfl ?_ ?_; rotate_left; (intro W hW; go_simp; with_reducible rfl)
      simp only [Act.put, List.setIfInBounds_toArray, List.set_cons_succ, List.set_cons_zero]
      refine flow_gval (v := ?_) rfl rfl ?_ ?_; rotate_left; (intro hb W hW; go_simp; with_reducible rfl)
      simp only [Act.put, List.setIfInBounds_toArray, List.set_cons_succ, List.set_cons_zero]
      refine flow_gval (v := ?_) rfl rfl ?_ ?_; rotate_left; (intro hb W hW; go_simp; with_reducible rfl)
      simp only [Act.put, List.setIfInBounds_toArray, List.set_cons_succ, List.set_cons_zero]
      refine flow_gop (v := ?_) rfl rfl ?_ ?_; rotate_left; (intro hb W hW; unfold Gives; go_simp; (with_reducible refine (containsI_any _ (nearB ls es) _ W (HU.out W hW)).mono ?_); rintro e W' ⟨rfl, hb3⟩; first | (refine ⟨?_, Since.trans hW hb3⟩; with_reducible rfl) | (subst hb3; refine ⟨?_, hW⟩; with_reducible rfl))
      simp only [Act.put, List.setIfInBounds_toArray, List.set_cons_succ, List.set_cons_zero]
      refine flow_gval (v := ?_) rfl rfl ?_ ?_; rotate_left; (intro hb W hW; go_simp; with_reducible rfl)
      simp only [Act.put, List.setIfInBounds_toArray, List.set_cons_succ, List.set_cons_zero]
      first | refine flow_and rfl rfl ?_ | (refine flow_val (v := ?_) rfl ?_ ?_; rotate_left; (intro W hW; go_simp; with_reducible rfl))
      simp only [Act.put, List.setIfInBounds_toArray, List.set_cons_succ, List.set_cons_zero]
      refine flow_val (v := ?_) rfl ?_ ?_; rotate_left; (intro W hW; go_simp; with_reducible rfl)
      simp only [Act.put, List.setIfInBounds_toArray, List.set_cons_succ, List.set_cons_zero]
      intro W5 hW5
      have HW5 := Lib.hid hW5
      clear hW5
      go_wp2
      go_ret
      exact ⟨ret_bool hr.out.symm, Since.after Hb0.out (HW.out.after HW5.out)⟩
    · have c2' : (s == 2) = false := by simpa using c2
      by_cases c3 : s = 3
      · subst c3
        have hr := Lib.hid (show accB n 3 ls l idk ink es = forI l (nearB ls es) by simp [accB])
        clear c1 c1' c2 c2'
        go_wp2_with fail
        refine (acceptsForest_any l _ (nearB ls es) W lb0 lb1 (HU.out W (since_refl _)) (by rw [Hlen.out]; omega)).mono ?_
        rintro e W5 ⟨rfl, hb5⟩
        have HW5 := Lib.hid hb5
        clear hb5
        go_wp2
        go_ret
        exact ⟨ret_bool hr.out.symm, Since.after Hb0.out (HW.out.after HW5.out)⟩
      · have c3' : (s == 3) = false := by simpa using c3
        by_cases c4 : s = 4
        · subst c4
          have hr := Lib.hid (show accB n 4 ls l idk ink es = (decide (n.ids.length ≠ 0) && leadB idk ink ls l es) by simp [accB])
          clear c1 c1' c2 c2' c3 c3'
          go_wp2_with fail
          refine (acceptsLeader_any _ _ _ _ n ls k es l idk ink W (H.out.keep HW.out.below) (HL.out.keep HW.out.below) Hes.out hle Hin.out Hlb.out Hk.out Hid'.out Hinp.out).mono ?_
          rintro e W5 ⟨rfl, hb5⟩
          have HW5 := Lib.hid hb5
          clear hb5
          go_wp2
          go_ret
          exact ⟨ret_bool (by rw [hr.out]; first | rfl | simp), Since.after Hb0.out (HW.out.after HW5.out)⟩
        · have c4' : (s == 4) = false := by simpa using c4
          have hr := Lib.hid (show accB n s ls l idk ink es = (decide (n.ids.length ≠ 0) && evenB idk ls l es) by simp [accB, c1, c2, c3, c4])
          clear c1 c2 c3 c4
          go_wp2_with fail
          refine (acceptsEven_any _ _ _ _ n ls k es l idk W (H.out.keep HW.out.below) (HL.out.keep HW.out.below) Hes.out hle Hin.out Hlb.out Hk.out Hid'.out).mono ?_
          rintro e W5 ⟨rfl, hb5⟩
          have HW5 := Lib.hid hb5
          clear hb5
          go_wp2
          go_ret
          exact ⟨ret_bool (by rw [hr.out]; first | rfl | simp), Since.after Hb0.out (HW.out.after HW5.out)⟩
end Go.Proofs.YtbfoefkfcnaimaaGreat
namespace Go.Proofs.YtbfoefkfcnaimaaGreat
open Go.RowKit
theorem all_near (l : Int) (xs : List Int) : xs.all (inB (1 - l) (1 - l)) = !(xs.any fun x => x != 1 - l) := by
  rw [List.not_any_eq_all_not]
  congr 1
  funext x
  rw [Bool.eq_iff_iff, inB_iff]
  simp
  omega
theorem near_map (ls : List Int) (es : List (Int × Int)) : ((es.map (·.1)).map fun x => ls.getD x.toNat 0) = nearB ls es := by simp [nearB]
def allB' (ls : List Int) (lo hi : Int) : Bool := ls.all (inB lo hi)
theorem l1All_b' (v : Value) (xs : List Int) (lo hi : Int) (w : World) (h : IntS w v xs) :
    Calls Tryz.prog 46 #[v, .int .i64 lo, .int .i64 hi] w fun e w' => e = .returned (.bool (allB' xs lo hi)) ∧ w = w' := l1All_any v xs lo hi w h
theorem allWithin_b' (v : Value) (xs : List Int) (lo hi : Int) (w : World) (h : IntS w v xs) :
    Calls Tryz.prog 54 #[v, .int .i64 lo, .int .i64 hi] w fun e w' => e = .returned (.bool (allB' xs lo hi)) ∧ Below w.heap.size w w' := allWithin_any v xs lo hi w h
set_option maxRecDepth 100000 in
set_option maxHeartbeats 8000000 in
theorem plAt_any (ve vi vn vl : Value) (n : Net) (s : Int) (ls : List Int) (k : Nat) (es : List (Int × Int)) (l idk ink : Int) (w : World) (h : NetIn w ve vi vn n) (hl : IntS w vl ls) (hs1 : 1 ≤ s) (hs5 : s ≤ 5) (hes : n.ends[k]? = some es) (hle : es.length ≤ 6) (hin : ∀ e ∈ es, 0 ≤ e.1 ∧ e.1 < ls.length)
    (hlb : ∀ x ∈ l :: nearB ls es, 0 ≤ x ∧ x ≤ 999999999999) (hk : ls[k]? = some l) (hid : n.ids.length ≠ 0 → n.ids[k]? = some idk) (hinp : n.inputs[k]? = some ink) :
    Calls Tryz.prog 69 #[.agg #[ve, vi, vn], .int .i64 s, vl, .int .i64 k] w fun e w' => e = .returned (.bool (accB n s ls l idk ink es)) ∧ Below w.heap.size w w' := by
  obtain ⟨w0, hw0⟩ : ∃ w0, w0 = (w).alloc (.cells #[ve, vi, vn] 31) := ⟨_, rfl⟩
  have hb0 : Below w.heap.size w w0 := by rw [hw0]; exact ((Below.refl _ _).alloc (by simp) _)
  have H := Lib.hid (h.keep hb0)
  obtain ⟨h1, h2, h3⟩ := h.keep hb0
  obtain ⟨A, c, rfl, hlc, hm, hA⟩ := h1
  obtain ⟨A2, c2, rfl, _, hm2, _⟩ := h2
  obtain ⟨A3, c3, rfl, _, hm3, _⟩ := h3
  unfold maxLen at hm hm2 hm3
  have p00 : ∀ W, Since w0 W → W.cell? ⟨w.heap.size, 0, none⟩ = some (.slice A n.ends.length c) := have_cell (by rw [hw0]; simp)
  have p01 : ∀ W, Since w0 W → W.cell? ⟨w.heap.size, 1, none⟩ = some (.slice A2 n.ids.length c2) := have_cell (by rw [hw0]; simp)
  have p02 : ∀ W, Since w0 W → W.cell? ⟨w.heap.size, 2, none⟩ = some (.slice A3 n.inputs.length c3) := have_cell (by rw [hw0]; simp)
  have Hb0 := Lib.hid hb0
  have Hw0 := Lib.hid hw0
  have HA := Lib.hid hA
  clear hA h
  clear hb0 hw0
  have HL := Lib.hid (hl.keep Hb0.out)
  obtain ⟨_, bl, ol, cl, l', e0, rfl, hkl, hk', -, hd⟩ := lab_at HL.out (x := (k : Int)) (by omega) (by have := lt_of_get hk; omega)
  obtain rfl : k = _ := by exact Int.ofNat.inj e0
  obtain rfl : l = l' := Option.some.inj (hk.symm.trans hk')
  obtain ⟨_, _, hv, hlL, hmL, _⟩ := id hl
  cases hv
  unfold maxLen at hmL
  obtain ⟨lb0, lb1⟩ := hlb l (by simp)
  have t0 := have_cell hd
  have Hes := Lib.hid hes
  have Hin := Lib.hid hin
  have Hlb := Lib.hid hlb
  have Hk := Lib.hid hk
  have Hid' := Lib.hid hid
  have Hinp := Lib.hid hinp
  have hs0 : Since w0 w0 := since_refl _
  clear hd hk hk' e0 hl hes hin hlb hid hinp
  go_enter Tryz.func69, Tryz.ntmps69
  go_upto_region 1 with (fail)
  rw [← Hw0.out]
  go_wp2_with fail
  refine (neNear_any _ _ _ n k es _ H.out Hes.out (by omega)).mono ?_
  rintro e W1 ⟨u1, rfl, ho1, hb1⟩
  have Ho1 := Lib.hid ho1.ints
  have Hs1 : Hid (Since w0 W1) := hb1
  clear ho1 hb1 hs0
  go_wp2_with fail
  refine (coThrough_any _ _ ls (es.map (·.1)) _ (HL.out.keep Hs1.out.below) Ho1.out (by simp; omega) (fun x hx => by obtain ⟨e, he, rfl⟩ := List.mem_map.1 hx; exact Hin.out e he)).mono ?_
  rw [near_map]
  rintro e W ⟨u, rfl, ho, hb⟩
  have hlen : (nearB ls es).length = es.length := by simp [nearB]
  have HU := Lib.hid (show ∀ X, Since W X → IntS X u (nearB ls es) from fun X hX => ho.ints.keep hX.below)
  have HW := Lib.hid (Hs1.out.trans hb)
  have Hlen := Lib.hid hlen
  have hsX : Since W W := since_refl _
  have p00 := lift_cell p00 HW.out
  have p01 := lift_cell p01 HW.out
  have p02 := lift_cell p02 HW.out
  have t0 := lift_cell t0 HW.out
  clear ho hb hlen
  by_cases c1 : s = 1
  · subst c1
    have hr := Lib.hid (show accB n 1 ls l idk ink es = (decide (l ≤ 1) && allB' (nearB ls es) (1 - l) (1 - l)) by simp [accB, allB', all_near])
    have m1 : IntKind.i64.wrap (1 - l) = 1 - l := wr64 _ (by omega) (by omega)
    go_upto_region 4 with (fail)
    clear hsX
    refine wp_region_flow 20 (Since W) (by kernel_rfl) (by kernel_rfl) (by simp) (since_drew (since_refl _)) ?_
    simp only [List.take_succ_cons, List.take_zero, List.drop_succ_cons, List.drop_zero]
    refine flow_val (v := ?_) rfl ?_ ?_; rotate_left; (intro W hW; go_simp; with_reducible rfl)
    simp only [Act.put, List.setIfInBounds_toArray, List.set_cons_succ, List.set_cons_zero]
    refine flow_val (v := ?_) rfl ?_ ?_; rotate_left; (intro W hW; go_simp; with_reducible rfl)
    simp only [Act.put, List.setIfInBounds_toArray, List.set_cons_succ, List.set_cons_zero]
    refine flow_val (v := ?_) rfl ?_ ?_; rotate_left; (intro W hW; go_simp; with_reducible rfl)
    simp only [Act.put, List.setIfInBounds_toArray, List.set_cons_succ, List.set_cons_zero]
    refine flow_val (v := ?_) rfl ?_ ?_; rotate_left; (intro W hW; go_simp; with_reducible rfl)
    simp only [Act.put, List.setIfInBounds_toArray, List.set_cons_succ, List.set_cons_zero]
    refine flow_val (v := ?_) rfl ?_ ?_; rotate_left; (intro W hW; go_simp; with_reducible rfl)
    simp only [Act.put, List.setIfInBounds_toArray, List.set_cons_succ, List.set_cons_zero]
    refine flow_val (v := ?_) rfl ?_ ?_; rotate_left; (intro W hW; go_simp; with_reducible rfl)
    simp only [Act.put, List.setIfInBounds_toArray, List.set_cons_succ, List.set_cons_zero]
    refine flow_gval (v := ?_) rfl rfl ?_ ?_; rotate_left; (intro hb W hW; go_simp; with_reducible rfl)
    simp only [Act.put, List.setIfInBounds_toArray, List.set_cons_succ, List.set_cons_zero]
    refine flow_gval (v := ?_) rfl rfl ?_ ?_; rotate_left; (intro hb W hW; go_simp; with_reducible rfl)
    simp only [Act.put, List.setIfInBounds_toArray, List.set_cons_succ, List.set_cons_zero]
    refine flow_gval (v := ?_) rfl rfl ?_ ?_; rotate_left; (intro hb W hW; go_simp; with_reducible rfl)
    simp only [Act.put, List.setIfInBounds_toArray, List.set_cons_succ, List.set_cons_zero]
    refine flow_gval (v := ?_) rfl rfl ?_ ?_; rotate_left; (intro hb W hW; go_simp; with_reducible rfl)
    simp only [Act.put, List.setIfInBounds_toArray, List.set_cons_succ, List.set_cons_zero]
    refine flow_gval (v := ?_) rfl rfl ?_ ?_; rotate_left; (intro hb W hW; go_simp; with_reducible rfl)
    simp only [Act.put, List.setIfInBounds_toArray, List.set_cons_succ, List.set_cons_zero]
    refine flow_gval (v := ?_) rfl rfl ?_ ?_; rotate_left; (intro hb W hW; go_simp; with_reducible rfl)
    simp only [Act.put, List.setIfInBounds_toArray, List.set_cons_succ, List.set_cons_zero]
    refine flow_gval (v := ?_) rfl rfl ?_ ?_; rotate_left; (intro hb W hW; go_simp; with_reducible rfl)
    simp only [Act.put, List.setIfInBounds_toArray, List.set_cons_succ, List.set_cons_zero]
    refine flow_gval (v := ?_) rfl rfl ?_ ?_; rotate_left; (intro hb W hW; go_simp; with_reducible rfl)
    simp only [Act.put, List.setIfInBounds_toArray, List.set_cons_succ, List.set_cons_zero]
    refine flow_gval (v := ?_) rfl rfl ?_ ?_; rotate_left; (intro hb W hW; go_simp; with_reducible rfl)
    simp only [Act.put, List.setIfInBounds_toArray, List.set_cons_succ, List.set_cons_zero]
    refine flow_gval (v := ?_) rfl rfl ?_ ?_; rotate_left; (intro hb W hW; go_simp; with_reducible rfl)
    simp only [Act.put, List.setIfInBounds_toArray, List.set_cons_succ, List.set_cons_zero]
    refine flow_gval (v := ?_) rfl rfl ?_ ?_; rotate_left; (intro hb W hW; go_simp; with_reducible rfl)
    simp only [Act.put, List.setIfInBounds_toArray, List.set_cons_succ, List.set_cons_zero]
    refine flow_gop (v := ?_) rfl rfl ?_ ?_; rotate_left; (intro hb W hW; unfold Gives; go_simp; (with_reducible refine (l1All_b' _ (nearB ls es) _ _ W (HU.out W hW)).mono ?_); rintro e W' ⟨rfl, hb3⟩; first | (refine ⟨?_, Since.trans hW hb3⟩; with_reducible rfl) | (subst hb3; refine ⟨?_, hW⟩; with_reducible rfl))
    simp only [Act.put, List.setIfInBounds_toArray, List.set_cons_succ, List.set_cons_zero]
    first | refine flow_and rfl rfl ?_ | (refine flow_val (v := ?_) rfl ?_ ?_; rotate_left; (intro W hW; go_simp; with_reducible rfl))
    simp only [Act.put, List.setIfInBounds_toArray, List.set_cons_succ, List.set_cons_zero]
    refine flow_val (v := ?_) rfl ?_ ?_; rotate_left; (intro W hW; go_simp; with_reducible rfl)
    simp only [Act.put, List.setIfInBounds_toArray, List.set_cons_succ, List.set_cons_zero]
    intro W5 hW5
    have HW5 := Lib.hid hW5
    clear hW5 m1
    go_wp2
    go_ret
    exact ⟨ret_bool hr.out.symm, Since.after Hb0.out (HW.out.after HW5.out)⟩
  · have c1' : (s == 1) = false := by simpa using c1
    by_cases c2 : s = 2
    · subst c2
      have hr := Lib.hid (show accB n 2 ls l idk ink es = (decide (l ≤ 2) && !hasB (nearB ls es) l) by simp [accB])
      clear c1 c1'
      go_upto_region 6 with (fail)
      clear hsX
      refine wp_region_flow0 15 (Since W) (since_refl _) ?_
      simp only [List.take_succ_cons, List.take_zero, List.drop_succ_cons, List.drop_zero]
      refine flow_val (v := ?_) rfl ?_ ?_; rotate_left; (intro W hW; go_simp; with_reducible rfl)
      simp only [Act.put, List.setIfInBounds_toArray, List.set_cons_succ, List.set_cons_zero]
      refine flow_val (v := ?_) rfl ?_ ?_; rotate_left; (intro W hW; go_simp; with_reducible rfl)
      simp only [Act.put, List.setIfInBounds_toArray, List.set_cons_succ, List.set_cons_zero]
      refine flow_val (v := ?_) rfl ?_ ?_; rotate_left; (intro W hW; go_simp; with_reducible rfl)
      simp only [Act.put, List.setIfInBounds_toArray, List.set_cons_succ, List.set_cons_zero]
      refine flow_val (v := ?_) rfl ?_ ?_; rotate_left; (intro W hW; go_simp; with_reducible rfl)
      simp only [Act.put, List.setIfInBounds_toArray, List.set_cons_succ, List.set_cons_zero]
      refine flow_val (v := ?_) rfl ?_ ?_; rotate_left; (intro W hW; go_simp; with_reducible rfl)
      simp only [Act.put, List.setIfInBounds_toArray, List.set_cons_succ, List.set_cons_zero]
      refine flow_val (v := ?_) rfl ?_ ?_; rotate_left; (intro W hW; go_simp; with_reducible rfl)
      simp only [Act.put, List.setIfInBounds_toArray, List.set_cons_succ, List.set_cons_zero]
      refine flow_gval (v := ?_) rfl rfl ?_ ?_; rotate_left; (intro hb W hW; go_simp; with_reducible rfl)
      simp only [Act.put, List.setIfInBounds_toArray, List.set_cons_succ, List.set_cons_zero]
      refine flow_gval (v := ?_) rfl rfl ?_ ?_; rotate_left; (intro hb W hW; go_simp; with_reducible rfl)
      simp only [Act.put, List.setIfInBounds_toArray, List.set_cons_succ, List.set_cons_zero]
      refine flow_gval (v := ?_) rfl rfl ?_ ?_; rotate_left; (intro hb W hW; go_simp; with_reducible rfl)
      simp only [Act.put, List.setIfInBounds_toArray, List.set_cons_succ, List.set_cons_zero]
      refine flow_gval (v := ?_) rfl rfl ?_ ?_; rotate_left; (intro hb W hW; go_simp; with_reducible rfl)
      simp only [Act.put, List.setIfInBounds_toArray, List.set_cons_succ, List.set_cons_zero]
      refine flow_gval (v := ?_) rfl rfl ?_ ?_; rotate_left; (intro hb W hW; go_simp; with_reducible rfl)
      simp only [Act.put, List.setIfInBounds_toArray, List.set_cons_succ, List.set_cons_zero]
      refine flow_gop (v := ?_) rfl rfl ?_ ?_; rotate_left; (intro hb W hW; unfold Gives; go_simp; (with_reducible refine (l1Has_any _ (nearB ls es) _ W (HU.out W hW)).mono ?_); rintro e W' ⟨rfl, hb3⟩; first | (refine ⟨?_, Since.trans hW hb3⟩; with_reducible rfl) | (subst hb3; refine ⟨?_, hW⟩; with_reducible rfl))
      simp only [Act.put, List.setIfInBounds_toArray, List.set_cons_succ, List.set_cons_zero]
      refine flow_gval (v := ?_) rfl rfl ?_ ?_; rotate_left; (intro hb W hW; go_simp; with_reducible rfl)
      simp only [Act.put, List.setIfInBounds_toArray, List.set_cons_succ, List.set_cons_zero]
      first | refine flow_and rfl rfl ?_ | (refine flow_val (v := ?_) rfl ?_ ?_; rotate_left; (intro W hW; go_simp; with_reducible rfl))
      simp only [Act.put, List.setIfInBounds_toArray, List.set_cons_succ, List.set_cons_zero]
      refine flow_val (v := ?_) rfl ?_ ?_; rotate_left; (intro W hW; go_simp; with_reducible rfl)
      simp only [Act.put, List.setIfInBounds_toArray, List.set_cons_succ, List.set_cons_zero]
      intro W5 hW5
      have HW5 := Lib.hid hW5
      clear hW5
      go_wp2
      go_ret
      exact ⟨ret_bool hr.out.symm, Since.after Hb0.out (HW.out.after HW5.out)⟩
    · have c2' : (s == 2) = false := by simpa using c2
      by_cases c3 : s = 3
      · subst c3
        have hr := Lib.hid (show accB n 3 ls l idk ink es = forS l (nearB ls es) by simp [accB, for_eq lb0])
        clear c1 c1' c2 c2'
        go_wp2_with fail
        refine (plForest_any l _ (nearB ls es) W lb0 lb1 (HU.out W (since_refl _)) (by rw [Hlen.out]; omega)).mono ?_
        rintro e W5 ⟨rfl, hb5⟩
        have HW5 := Lib.hid hb5
        clear hb5
        go_wp2
        go_ret
        exact ⟨ret_bool hr.out.symm, Since.after Hb0.out (HW.out.after HW5.out)⟩
      · have c3' : (s == 3) = false := by simpa using c3
        by_cases hid0 : n.ids.length = 0
        · have hr := Lib.hid (show accB n s ls l idk ink es = false by simp [accB, c1, c2, c3, hid0])
          have hid1 : ((n.ids.length : Int) == 0) = true := by simp [hid0]
          have hid2 : decide (0 < n.ids.length) = false := by simp [hid0]
          have hid3 : decide ((0 : Int) < (n.ids.length : Int)) = false := by simp [hid0]
          clear c1 c2 c3 hid0
          go_upto_region 9 with (fail)
          clear hsX
          refine wp_region_flow0 12 (Since W) (since_refl _) ?_
          simp only [List.take_succ_cons, List.take_zero, List.drop_succ_cons, List.drop_zero]
          refine flow_val (v := ?_) rfl ?_ ?_; rotate_left; (intro W hW; go_simp; with_reducible rfl)
          simp only [Act.put, List.setIfInBounds_toArray, List.set_cons_succ, List.set_cons_zero]
          refine flow_val (v := ?_) rfl ?_ ?_; rotate_left; (intro W hW; go_simp; with_reducible rfl)
          simp only [Act.put, List.setIfInBounds_toArray, List.set_cons_succ, List.set_cons_zero]
          refine flow_val (v := ?_) rfl ?_ ?_; rotate_left; (intro W hW; go_simp; with_reducible rfl)
          simp only [Act.put, List.setIfInBounds_toArray, List.set_cons_succ, List.set_cons_zero]
          refine flow_val (v := ?_) rfl ?_ ?_; rotate_left; (intro W hW; go_simp; with_reducible rfl)
          simp only [Act.put, List.setIfInBounds_toArray, List.set_cons_succ, List.set_cons_zero]
          refine flow_val (v := ?_) rfl ?_ ?_; rotate_left; (intro W hW; go_simp; with_reducible rfl)
          simp only [Act.put, List.setIfInBounds_toArray, List.set_cons_succ, List.set_cons_zero]
          refine flow_dead rfl rfl (by simp [*]) ?_
          simp only [Act.put, List.setIfInBounds_toArray, List.set_cons_succ, List.set_cons_zero]
          refine flow_dead rfl rfl (by simp [*]) ?_
          simp only [Act.put, List.setIfInBounds_toArray, List.set_cons_succ, List.set_cons_zero]
          refine flow_dead rfl rfl (by simp [*]) ?_
          simp only [Act.put, List.setIfInBounds_toArray, List.set_cons_succ, List.set_cons_zero]
          refine flow_dead rfl rfl (by simp [*]) ?_
          simp only [Act.put, List.setIfInBounds_toArray, List.set_cons_succ, List.set_cons_zero]
          refine flow_dead rfl rfl (by simp [*]) ?_
          simp only [Act.put, List.setIfInBounds_toArray, List.set_cons_succ, List.set_cons_zero]
          first | refine flow_and rfl rfl ?_ | (refine flow_val (v := ?_) rfl ?_ ?_; rotate_left; (intro W hW; go_simp; with_reducible rfl))
          simp only [Act.put, List.setIfInBounds_toArray, List.set_cons_succ, List.set_cons_zero]
          refine flow_val (v := ?_) rfl ?_ ?_; rotate_left; (intro W hW; go_simp; with_reducible rfl)
          simp only [Act.put, List.setIfInBounds_toArray, List.set_cons_succ, List.set_cons_zero]
          intro W5 hW5
          have HW5 := Lib.hid hW5
          clear hW5
          go_wp2
          go_ret
          exact ⟨ret_bool (by rw [hr.out]; try simp), Since.after Hb0.out (HW.out.after HW5.out)⟩
        · have hidk := Hid'.out hid0
          have hid3 : decide ((0 : Int) < (n.ids.length : Int)) = true := by simp; omega
          have hid4 : decide (0 < n.ids.length) = true := by simp; omega
          by_cases c4 : s = 4
          · subst c4
            have hr := Lib.hid (show accB n 4 ls l idk ink es = leadB idk ink ls l es by simp [accB, hid0])
            have Hidk := Lib.hid hidk
            have hid5 : 0 < n.ids.length := by omega
            clear c1 c1' c2 c2' c3 c3' hid0 hidk
            go_wp2_with fail
            refine (plRooted4_any _ _ _ _ n ls k es l idk ink W (H.out.keep HW.out.below) (HL.out.keep HW.out.below) Hes.out hle Hin.out Hlb.out Hk.out Hidk.out Hinp.out).mono ?_
            rintro e W5 ⟨rfl, hb5⟩
            have HW5 := Lib.hid hb5
            clear hb5
            go_wp2
            go_ret
            exact ⟨ret_bool hr.out.symm, Since.after Hb0.out (HW.out.after HW5.out)⟩
          · obtain rfl : s = 5 := by omega
            have hr := Lib.hid (show accB n 5 ls l idk ink es = evenB idk ls l es by simp [accB, hid0])
            have Hidk := Lib.hid hidk
            have hid5 : 0 < n.ids.length := by omega
            clear c1 c1' c2 c2' c3 c3' c4 hid0 hidk
            go_wp2_with fail
            refine (plRooted5_any _ _ _ _ n ls k es l idk ink W (H.out.keep HW.out.below) (HL.out.keep HW.out.below) Hes.out hle Hin.out Hlb.out Hk.out Hidk.out Hinp.out).mono ?_
            rintro e W5 ⟨rfl, hb5⟩
            have HW5 := Lib.hid hb5
            clear hb5
            go_wp2
            go_ret
            exact ⟨ret_bool hr.out.symm, Since.after Hb0.out (HW.out.after HW5.out)⟩
/-- a network, a scheme, labels -/
def labOk (n : Net) (s : Int) (ls : List Int) : Bool := netOk n && inB 1 5 s && ((ls.length : Int) == (n.ends.length : Int)) && allB' ls 0 999999999999
end Go.Proofs.YtbfoefkfcnaimaaGreat
namespace Go.Proofs.YtbfoefkfcnaimaaGreat
open Go.RowKit
def accAt (n : Net) (s : Int) (ls : List Int) (k : Nat) : Bool := accB n s ls (ls.getD k 0) (n.ids.getD k 0) (n.inputs.getD k 0) (n.ends.getD k [])
/-- what a node of good labels has -/
theorem acc_at {n : Net} {s : Int} {ls : List Int} (h : labOk n s ls = true) {k : Nat} (hk : k < n.ends.length) :
    ∃ es l idk ink, 1 ≤ s ∧ s ≤ 5 ∧ n.ends[k]? = some es ∧ es.length ≤ 6 ∧ (∀ e ∈ es, 0 ≤ e.1 ∧ e.1 < ls.length) ∧ (∀ x ∈ l :: nearB ls es, 0 ≤ x ∧ x ≤ 999999999999) ∧ ls[k]? = some l ∧ (n.ids.length ≠ 0 → n.ids[k]? = some idk) ∧ n.inputs[k]? = some ink ∧ accAt n s ls k = accB n s ls l idk ink es := by
  unfold labOk at h
  simp only [Bool.and_eq_true, beq_iff_eq] at h
  obtain ⟨⟨⟨h1, h2⟩, h3⟩, h4⟩ := h
  have hs := inB_iff.1 h2
  have hl : ls.length = n.ends.length := by omega
  obtain ⟨es, hes⟩ := getx n.ends k hk
  obtain ⟨l, hl'⟩ := getx ls k (by omega)
  obtain ⟨r1, r2⟩ := netOk_row h1 hes
  unfold allB' at h4
  rw [List.all_eq_true] at h4
  have ha : ∀ x ∈ ls, 0 ≤ x ∧ x ≤ 999999999999 := fun x hx => inB_iff.1 (h4 x hx)
  unfold netOk at h1
  simp only [Bool.and_eq_true] at h1
  obtain ⟨⟨⟨-, i1⟩, i2⟩, -⟩ := h1
  unfold inputsB at i2
  simp only [Bool.and_eq_true, beq_iff_eq] at i2
  obtain ⟨ink, hink⟩ := getx n.inputs k (by omega)
  have hids : n.ids.length ≠ 0 → n.ids[k]? = some (n.ids.getD k 0) := fun h0 => by
    unfold idsB at i1
    simp only [Bool.or_eq_true, Bool.and_eq_true, beq_iff_eq] at i1
    have : n.ids.length = n.ends.length := by
      rcases i1 with e | ⟨e, -⟩
      · exact absurd (by simpa using e) h0
      · omega
    have hk' : k < n.ids.length := by omega
    rw [List.getD_eq_getElem?_getD, List.getElem?_eq_getElem hk']; rfl
  exact ⟨es, l, _, ink, hs.1, hs.2, hes, r1, fun e he => by rw [hl]; exact r2 e he, fun x hx => ha x (seen_in hl' (fun e he => by rw [hl]; exact r2 e he) hx), hl', hids, hink, by simp [accAt, hes, hl', hink]⟩
theorem labOk_net {n : Net} {s : Int} {ls : List Int} (h : labOk n s ls = true) : netOk n = true ∧ ls.length = n.ends.length ∧ n.ends.length ≤ 40 := by
  unfold labOk at h
  simp only [Bool.and_eq_true, beq_iff_eq] at h
  exact ⟨h.1.1.1, by have := h.1.2; omega, (netOk_len h.1.1.1).2⟩
def fnExactVerifyAt_r1 (n : Net) (s : Int) (ls : List Int) (v : Int) : Bool := labOk n s ls && inB 0 ((n.ends.length : Int) - 1) v
def fnExactVerifyAt_r0 (n : Net) (s : Int) (ls : List Int) (v : Int) : Bool := fnExactVerifyAt_r1 n s ls v && accAt n s ls v.toNat
def nodeB (ess : List (List (Int × Int))) (v : Int) : Bool := inB 0 ((ess.length : Int) - 1) v
theorem hasNode_b (ve vi vn : Value) (ess : List (List (Int × Int))) (v : Int) (w : World) (h : EndSS w ve ess) :
    Calls Tryz.prog 55 #[.agg #[ve, vi, vn], .int .i64 v] w fun e w' => e = .returned (.bool (nodeB ess v)) ∧ Below w.heap.size w w' := hasNode_any ve vi vn ess v w h
theorem tup2 {a b c d : Bool} (h1 : a = b) (h2 : c = d) : Ending.returned (.tuple #[.bool a, .bool c]) = .returned (.tuple #[.bool b, .bool d]) := by rw [h1, h2]
end Go.Proofs.YtbfoefkfcnaimaaGreat
