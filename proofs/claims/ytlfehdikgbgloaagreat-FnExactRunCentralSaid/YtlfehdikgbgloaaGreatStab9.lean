import Derived.Test.YtlfehdikgbgloaaGreatStab8
namespace Go.Proofs.YtlfehdikgbgloaaGreat
open Go.RowKit
set_option maxRecDepth 100000 in
set_option maxHeartbeats 1600000 in
theorem ssMove_any (ve vi vn vl vs : Value) (n : Net) (r : Int) (ls set : List Int) (w : World) (h : NetIn w ve vi vn n) (hl : IntS w vl ls) (hse : IntS w vs set) (hs : SitP n r ls) (hsb : set.length ≤ 1000000) (hin : ∀ v ∈ set, 0 ≤ v ∧ v < ls.length) :
    Calls Tryz.prog 62 #[.agg #[ve, vi, vn], .int .i64 r, vl, vs] w fun e w' => ∃ u, e = .returned u ∧ Own w' w.heap.size u (moveB n r ls set) ∧ Below w.heap.size w w' := by
  have HL0 := Lib.hid hl
  obtain ⟨AL, cL, rfl, hlL, hmL, _⟩ := hl
  obtain ⟨AP, cS, rfl, hlS, hmS, hAS⟩ := hse
  unfold maxLen at hmL hmS
  have hnl := netOk_len hs.net
  have hln := hs.len
  have hb40 : ls.length ≤ 40 := by omega
  have hpos : 0 < ls.length := by omega
  obtain ⟨w0, hw0⟩ : ∃ w0, w0 = (w).alloc (.cells #[ve, vi, vn] 31) := ⟨_, rfl⟩
  have hb0 : Below w.heap.size w w0 := by rw [hw0]; exact ((Below.refl _ _).alloc (by simp) _)
  have H := Lib.hid (h.keep hb0)
  obtain ⟨h1, h2, h3⟩ := h.keep hb0
  obtain ⟨A, c, rfl, hlc, hm, hA⟩ := h1
  obtain ⟨A2, c2, rfl, _, hm2, _⟩ := h2
  obtain ⟨A3, c3, rfl, _, hm3, _⟩ := h3
  unfold maxLen at hm hm2 hm3
  have p00 : ∀ W, Since w0 W → W.cell? ⟨w.heap.size, 0, none⟩ = some (.slice A n.ends.length c) := have_cell (by rw [hw0]; simp)
  have p01 : ∀ W, Since w0 W → W.cell? ⟨w.heap.size, 1, none⟩ = some (.slice A2 n.ids.length c2) := have_cell (by rw [hw0]; simp)
  have p02 : ∀ W, Since w0 W → W.cell? ⟨w.heap.size, 2, none⟩ = some (.slice A3 n.inputs.length c3) := have_cell (by rw [hw0]; simp)
  have Hb0 := Lib.hid hb0
  have Hw0 := Lib.hid hw0
  have HA := Lib.hid hA
  clear hA h
  clear hb0 hw0
  have HL := Lib.hid (HL0.out.keep Hb0.out)
  have HS := Lib.hid (show ∀ k x, set[k]? = some x → ∃ b off, AP = some ⟨b, off, none⟩ ∧ w0.cell? ⟨b, off + k, none⟩ = some (.int .i64 x) from fun k x hx => by obtain ⟨b, off, e, hc⟩ := hAS k x hx; exact ⟨b, off, e, bc Hb0.out hc⟩)
  have Hs := Lib.hid hs
  have Hin := Lib.hid hin
  have Hln := Lib.hid hln
  have Hc : Hid (∀ W, Since w0 W → ∀ k : Nat, k < ls.length → Calls Tryz.prog 51 #[.agg #[.slice A n.ends.length c, .slice A2 n.ids.length c2, .slice A3 n.inputs.length c3], .int .i64 r, .slice AL ls.length cL, .int .i64 k] W fun e w' => e = .returned (.int .i64 (nextB n r ls k)) ∧ Below W.heap.size W w') := fun W hW k hk =>
    ssNext_any _ _ _ _ n r ls k W (H.out.keep hW.below) (HL.out.keep hW.below) hs (by rw [← hln]; exact hk)
  have hs0 : Since w0 w0 := since_refl _
  clear hAS hs hin hln
  go_enter Tryz.func62, Tryz.ntmps62
  go_upto_region 1 with (fail)
  rw [← Hw0.out]
  go_wp2_with fail
  refine (l1Own_any _ ls w0 (HL.out) (by omega) (by omega)).mono ?_
  rintro e W1 ⟨u1, rfl, ho1, hb1⟩
  rcases ho1.cases with ⟨-, e1⟩ | ⟨g, c1, rfl, hg1, hg2⟩
  · simp [e1] at hpos
  have hs1 : Since w0 W1 := hb1
  have HO1 := Lib.hid ho1
  have hgw : w0.heap.size ≤ g := hg1
  have Hs1 := Lib.hid hs1
  clear ho1 hb1 hg1 hg2 hs0 hs1
  go_wp2
  go_loopw [16] (fun i wr => ∃ k : Nat, k ≤ set.length ∧ i = .int .i64 k ∧ Own wr w0.heap.size (.slice (some ⟨g, 0, none⟩) ls.length c1) ((set.take k).foldl (putB n r ls) ls) ∧ Since w0 wr) (fun i _ => set.length - (intOf i).toNat)
  case atStart => exact ⟨0, Nat.zero_le _, rfl, HO1.out, Hs1.out⟩
  case round =>
    obtain ⟨k, hk, rfl, ho, hsr⟩ := hrel
    by_cases hlt : k < set.length
    · obtain ⟨x, hx⟩ := getx set k hlt
      obtain ⟨b, off, rfl, hcell⟩ := HS.out k x hx
      have d0 := hsr.cell hcell
      obtain ⟨x0, x1⟩ := Hin.out x (List.mem_of_getElem? hx)
      obtain ⟨q, rfl⟩ := Int.eq_ofNat_of_zero_le x0
      have hq : q < ls.length := by omega
      obtain ⟨y, hy⟩ : ∃ y, y = nextB n r ls q := ⟨_, rfl⟩
      have hcall := Hc.out wr hsr q hq
      rw [← hy] at hcall
      have Hcall := Lib.hid hcall
      obtain ⟨zs, hzs⟩ : ∃ zs, zs = (set.take k).foldl (putB n r ls) ls := ⟨_, rfl⟩
      rw [← hzs] at ho
      have hzl : zs.length = ls.length := by rw [hzs]; exact put_len n r ls _ _
      have Hn : Hid ((set.take (k + 1)).foldl (putB n r ls) ls = zs.set q y) := by show _ = _; rw [put_snoc hx, ← hzs, hy]; unfold putB; rw [Int.toNat_natCast]
      have m3 : IntKind.i64.wrap ((k : Int) + 1) = (k : Int) + 1 := wr64 _ (by omega) (by omega)
      have Ho := Lib.hid ho
      have Hzl := Lib.hid hzl
      clear ho hx hcell hcall hy hzs hzl
      go_wp2_with fail
      refine Hcall.out.mono ?_
      rintro e w1 ⟨rfl, hb1⟩
      have ho1 := Ho.out.keep hb1
      obtain ⟨z, hz⟩ := getx zs q (by rw [Hzl.out]; exact hq)
      have cz := ho1.cell hz
      have fz := ho1.free q
      have Hz1 := Lib.hid (ho1.set (k := q) y)
      have hs1 : Since w0 w1 := hsr.trans hb1
      have Hs2 := Lib.hid (show Since w0 (w1.setCell ⟨g, q, none⟩ (.int .i64 y)) from Below.setCell hs1 hgw _)
      clear ho1 hz hb1 hsr
      go_wp2
      go_roundw
      case rel => exact ⟨k + 1, by omega, by go_num, by rw [Hn.out]; exact Hz1.out, Hs2.out⟩
      case measure => simp [intOf]; omega
    · obtain rfl : k = set.length := by omega
      rw [List.take_length] at ho
      have Ho := Lib.hid ho
      clear ho
      go_wp2
      go_ret
      exact ⟨_, rfl, Ho.out.mono Hb0.out.size, Since.after Hb0.out hsr⟩
set_option maxRecDepth 100000 in
set_option maxHeartbeats 1600000 in
theorem moveSet_any (ve vi vn vl vs : Value) (n : Net) (r : Int) (ls set : List Int) (w : World) (h : NetIn w ve vi vn n) (hl : IntS w vl ls) (hse : IntS w vs set) (hs : SitP n r ls) (hsb : set.length ≤ 1000000) (hin : ∀ v ∈ set, 0 ≤ v ∧ v < ls.length) :
    Calls Tryz.prog 67 #[.agg #[ve, vi, vn], .int .i64 r, vl, vs] w fun e w' => ∃ u, e = .returned u ∧ Own w' w.heap.size u (moveB n r ls set) ∧ Below w.heap.size w w' := by
  have HL0 := Lib.hid hl
  obtain ⟨AL, cL, rfl, hlL, hmL, _⟩ := hl
  obtain ⟨AP, cS, rfl, hlS, hmS, hAS⟩ := hse
  unfold maxLen at hmL hmS
  have hnl := netOk_len hs.net
  have hln := hs.len
  have hb40 : ls.length ≤ 40 := by omega
  have hpos : 0 < ls.length := by omega
  obtain ⟨w0, hw0⟩ : ∃ w0, w0 = (w).alloc (.cells #[ve, vi, vn] 31) := ⟨_, rfl⟩
  have hb0 : Below w.heap.size w w0 := by rw [hw0]; exact ((Below.refl _ _).alloc (by simp) _)
  have H := Lib.hid (h.keep hb0)
  obtain ⟨h1, h2, h3⟩ := h.keep hb0
  obtain ⟨A, c, rfl, hlc, hm, hA⟩ := h1
  obtain ⟨A2, c2, rfl, _, hm2, _⟩ := h2
  obtain ⟨A3, c3, rfl, _, hm3, _⟩ := h3
  unfold maxLen at hm hm2 hm3
  have p00 : ∀ W, Since w0 W → W.cell? ⟨w.heap.size, 0, none⟩ = some (.slice A n.ends.length c) := have_cell (by rw [hw0]; simp)
  have p01 : ∀ W, Since w0 W → W.cell? ⟨w.heap.size, 1, none⟩ = some (.slice A2 n.ids.length c2) := have_cell (by rw [hw0]; simp)
  have p02 : ∀ W, Since w0 W → W.cell? ⟨w.heap.size, 2, none⟩ = some (.slice A3 n.inputs.length c3) := have_cell (by rw [hw0]; simp)
  have Hb0 := Lib.hid hb0
  have Hw0 := Lib.hid hw0
  have HA := Lib.hid hA
  clear hA h
  clear hb0 hw0
  have HL := Lib.hid (HL0.out.keep Hb0.out)
  have HS := Lib.hid (show ∀ k x, set[k]? = some x → ∃ b off, AP = some ⟨b, off, none⟩ ∧ w0.cell? ⟨b, off + k, none⟩ = some (.int .i64 x) from fun k x hx => by obtain ⟨b, off, e, hc⟩ := hAS k x hx; exact ⟨b, off, e, bc Hb0.out hc⟩)
  have Hs := Lib.hid hs
  have Hin := Lib.hid hin
  have Hln := Lib.hid hln
  have Hc : Hid (∀ W, Since w0 W → ∀ k : Nat, k < ls.length → Calls Tryz.prog 55 #[.agg #[.slice A n.ends.length c, .slice A2 n.ids.length c2, .slice A3 n.inputs.length c3], .int .i64 r, .slice AL ls.length cL, .int .i64 k] W fun e w' => e = .returned (.int .i64 (nextB n r ls k)) ∧ Below W.heap.size W w') := fun W hW k hk =>
    nextState_any _ _ _ _ n r ls k W (H.out.keep hW.below) (HL.out.keep hW.below) hs (by rw [← hln]; exact hk)
  have hs0 : Since w0 w0 := since_refl _
  clear hAS hs hin hln
  go_enter Tryz.func67, Tryz.ntmps67
  go_upto_region 1 with (fail)
  rw [← Hw0.out]
  go_wp2_with fail
  refine (clone_any _ ls w0 (HL.out) (by omega)).mono ?_
  rintro e W1 ⟨u1, rfl, ho1, hb1⟩
  rcases ho1.cases with ⟨-, e1⟩ | ⟨g, c1, rfl, hg1, hg2⟩
  · simp [e1] at hpos
  have hs1 : Since w0 W1 := hb1
  have HO1 := Lib.hid ho1
  have hgw : w0.heap.size ≤ g := hg1
  have Hs1 := Lib.hid hs1
  clear ho1 hb1 hg1 hg2 hs0 hs1
  go_wp2
  go_loopw [16] (fun i wr => ∃ k : Nat, k ≤ set.length ∧ i = .int .i64 k ∧ Own wr w0.heap.size (.slice (some ⟨g, 0, none⟩) ls.length c1) ((set.take k).foldl (putB n r ls) ls) ∧ Since w0 wr) (fun i _ => set.length - (intOf i).toNat)
  case atStart => exact ⟨0, Nat.zero_le _, rfl, HO1.out, Hs1.out⟩
  case round =>
    obtain ⟨k, hk, rfl, ho, hsr⟩ := hrel
    by_cases hlt : k < set.length
    · obtain ⟨x, hx⟩ := getx set k hlt
      obtain ⟨b, off, rfl, hcell⟩ := HS.out k x hx
      have d0 := hsr.cell hcell
      obtain ⟨x0, x1⟩ := Hin.out x (List.mem_of_getElem? hx)
      obtain ⟨q, rfl⟩ := Int.eq_ofNat_of_zero_le x0
      have hq : q < ls.length := by omega
      obtain ⟨y, hy⟩ : ∃ y, y = nextB n r ls q := ⟨_, rfl⟩
      have hcall := Hc.out wr hsr q hq
      rw [← hy] at hcall
      have Hcall := Lib.hid hcall
      obtain ⟨zs, hzs⟩ : ∃ zs, zs = (set.take k).foldl (putB n r ls) ls := ⟨_, rfl⟩
      rw [← hzs] at ho
      have hzl : zs.length = ls.length := by rw [hzs]; exact put_len n r ls _ _
      have Hn : Hid ((set.take (k + 1)).foldl (putB n r ls) ls = zs.set q y) := by show _ = _; rw [put_snoc hx, ← hzs, hy]; unfold putB; rw [Int.toNat_natCast]
      have m3 : IntKind.i64.wrap ((k : Int) + 1) = (k : Int) + 1 := wr64 _ (by omega) (by omega)
      have Ho := Lib.hid ho
      have Hzl := Lib.hid hzl
      clear ho hx hcell hcall hy hzs hzl
      go_wp2_with fail
      refine Hcall.out.mono ?_
      rintro e w1 ⟨rfl, hb1⟩
      have ho1 := Ho.out.keep hb1
      obtain ⟨z, hz⟩ := getx zs q (by rw [Hzl.out]; exact hq)
      have cz := ho1.cell hz
      have fz := ho1.free q
      have Hz1 := Lib.hid (ho1.set (k := q) y)
      have hs1 : Since w0 w1 := hsr.trans hb1
      have Hs2 := Lib.hid (show Since w0 (w1.setCell ⟨g, q, none⟩ (.int .i64 y)) from Below.setCell hs1 hgw _)
      clear ho1 hz hb1 hsr
      go_wp2
      go_roundw
      case rel => exact ⟨k + 1, by omega, by go_num, by rw [Hn.out]; exact Hz1.out, Hs2.out⟩
      case measure => simp [intOf]; omega
    · obtain rfl : k = set.length := by omega
      rw [List.take_length] at ho
      have Ho := Lib.hid ho
      clear ho
      go_wp2
      go_ret
      exact ⟨_, rfl, Ho.out.mono Hb0.out.size, Since.after Hb0.out hsr⟩
set_option maxHeartbeats 1600000 in
theorem l1Rising_any (v : Value) (xs : List Int) (lo hi : Int) (w : World) (h : IntS w v xs) :
    Calls Tryz.prog 60 #[v, .int .i64 lo, .int .i64 hi] w fun e w' => e = .returned (.bool (risingB lo hi xs)) ∧ w = w' := by
  obtain ⟨A, c, rfl, hlc, hm, hA⟩ := h
  unfold maxLen at hm
  have HA := Lib.hid hA
  clear hA
  go_enter Tryz.func60, Tryz.ntmps60
  go_wp2
  go_loop [11] (fun i => ∃ k : Nat, k ≤ xs.length ∧ i = .int .i64 k ∧ ((List.range k).all fun i => inB lo hi (xs.getD i 0) && (i == 0 || decide (xs.getD (i - 1) 0 < xs.getD i 0))) = true) (fun i => xs.length - (intOf i).toNat)
  case atStart => exact ⟨0, Nat.zero_le _, rfl, rfl⟩
  case round =>
    obtain ⟨k, hk, rfl, hall⟩ := hrel
    have Hall := Lib.hid hall
    clear hall
    by_cases hlt : k < xs.length
    · obtain ⟨x, hx⟩ := getx xs k hlt
      obtain ⟨b, off, rfl, hcell⟩ := HA.out k x hx
      have Hx := Lib.hid hx
      cases hb : inB lo hi x
      · have Hb := Lib.hid hb
        clear hx
        go_wp2_with (go_at_call 50; refine (l1In_b _ _ _ _).mono ?_; rintro e w' ⟨rfl, rfl⟩)
        go_ret
        exact ⟨ret_false (range_all_stop hlt (by rw [getD_of Hx.out, Hb.out]; rfl)), rfl⟩
      · have Hb := Lib.hid hb
        by_cases hk0 : k = 0
        · subst hk0
          simp only [Nat.add_zero] at hcell
          clear hx
          go_wp2_with (go_at_call 50; refine (l1In_b _ _ _ _).mono ?_; rintro e w' ⟨rfl, rfl⟩)
          go_round
          case rel => exact ⟨0 + 1, by omega, by go_num, by rw [range_all_succ, Hall.out, getD_of Hx.out, Hb.out]; rfl⟩
          case measure => simp [intOf]; omega
        · obtain ⟨y, hy⟩ := getx xs (k - 1) (by omega)
          obtain ⟨b', off', he, hcell2⟩ := HA.out (k - 1) y hy
          injection he with he
          injection he with e1 e2
          subst e1 e2
          have Hy := Lib.hid hy
          have hk1 : 0 < k := by omega
          cases hyx : decide (x ≤ y)
          all_goals
            have Hyx := Lib.hid hyx
          · have hn : ¬ x ≤ y := by simpa using hyx
            clear hx hy hyx
            go_wp2_with (go_at_call 50; refine (l1In_b _ _ _ _).mono ?_; rintro e w' ⟨rfl, rfl⟩)
            go_round
            case rel => exact ⟨k + 1, by omega, by go_num, by rw [range_all_succ, Hall.out, getD_of Hx.out, getD_of Hy.out, Hb.out]; simp; omega⟩
            case measure => simp [intOf]; omega
          · have hn : x ≤ y := by simpa using hyx
            clear hx hy hyx
            go_wp2_with (go_at_call 50; refine (l1In_b _ _ _ _).mono ?_; rintro e w' ⟨rfl, rfl⟩)
            go_ret
            exact ⟨ret_false (range_all_stop hlt (by rw [getD_of Hx.out, getD_of Hy.out, Hb.out]; simp; omega)), rfl⟩
    · obtain rfl : k = xs.length := by omega
      go_wp2
      go_ret
      exact ⟨ret_true Hall.out, rfl⟩
-- MoveSet
def mvPre (n : Net) (r : Int) (ls set : List Int) : Bool := sitB n r ls && risingB 0 ((ls.length : Int) - 1) set
def mvOk (n : Net) (r : Int) (ls set : List Int) : Bool := mvPre n r ls set && set.all (hasB (enB n r ls))
def fnExactMoveSet_r1 (n : Net) (r : Int) (ls set : List Int) : Bool := mvOk n r ls set
def fnExactMoveSet_d (n : Net) (r : Int) (ls set : List Int) : List Int := if mvOk n r ls set then moveB n r ls set else []
theorem fnExactMoveSet_dl (n : Net) (r : Int) (ls set : List Int) (_ : szNet n ≤ 1048576) (hb : ls.length ≤ 1048576) (_ : set.length ≤ 1048576) : (fnExactMoveSet_d n r ls set).length ≤ 4611686018427387904 := by
  unfold fnExactMoveSet_d
  split
  · unfold moveB; rw [put_len]; omega
  · simp
theorem rising_in {lo hi : Int} {xs : List Int} (h : risingB lo hi xs = true) : ∀ x ∈ xs, lo ≤ x ∧ x ≤ hi := by
  intro x hx
  obtain ⟨i, hi'⟩ := List.getElem?_of_mem hx
  unfold risingB at h
  rw [List.all_eq_true] at h
  have := h i (List.mem_range.2 (lt_of_get hi'))
  rw [getD_of hi', Bool.and_eq_true] at this
  exact inB_iff.1 this.1
/-- set is increasing below 40, so it is short -/
theorem rising_len {hi : Int} {xs : List Int} (h : risingB 0 hi xs = true) (h40 : hi ≤ 40) : xs.length ≤ 100 := by
  have key : ∀ k, k < xs.length → (k : Int) ≤ xs.getD k 0 := by
    intro k
    induction k with
    | zero =>
      intro hk
      have := rising_in h (xs.getD 0 0) (by rw [List.getD_eq_getElem?_getD, List.getElem?_eq_getElem hk]; exact List.getElem_mem hk)
      exact this.1
    | succ k ih =>
      intro hk
      have h1 := ih (by omega)
      unfold risingB at h
      rw [List.all_eq_true] at h
      have h2 := h (k + 1) (List.mem_range.2 hk)
      simp only [Bool.and_eq_true, Bool.or_eq_true, decide_eq_true_eq, beq_iff_eq, Nat.add_sub_cancel] at h2
      omega
  rcases Nat.lt_or_ge 100 xs.length with hl | hl
  · have h1 := key 100 hl
    have h2 := rising_in h (xs.getD 100 0) (by rw [List.getD_eq_getElem?_getD, List.getElem?_eq_getElem hl]; exact List.getElem_mem hl)
    omega
  · exact hl
theorem mv_pre {n : Net} {r : Int} {ls set : List Int} (h : (!sitB n r ls || !risingB 0 ((ls.length : Int) - 1) set) = false) : SitP n r ls ∧ set.length ≤ 100 ∧ (∀ v ∈ set, 0 ≤ v ∧ v < ls.length) ∧ mvPre n r ls set = true := by
  simp only [Bool.or_eq_false_iff, Bool.not_eq_false'] at h
  have hs := sitP_of h.1
  refine ⟨hs, rising_len h.2 (by have := netOk_len hs.net; have := hs.len; omega), fun v hv => by have := rising_in h.2 v hv; omega, by unfold mvPre; rw [h.1, h.2]; rfl⟩
theorem mv_no {n : Net} {r : Int} {ls set : List Int} (h : (!sitB n r ls || !risingB 0 ((ls.length : Int) - 1) set) = true) : mvOk n r ls set = false := by
  unfold mvOk mvPre
  revert h
  cases sitB n r ls <;> cases risingB 0 ((ls.length : Int) - 1) set <;> simp
set_option maxRecDepth 100000 in
set_option maxHeartbeats 1600000 in
theorem fnExactMoveSet_spec (ve vi vn : Value) (n : Net) (r : Int) (vl : Value) (ls : List Int) (vs : Value) (set : List Int) (w : World) (h : NetIn w ve vi vn n) (_ : -9223372036854775808 ≤ r ∧ r ≤ 9223372036854775807) (hl : IntS w vl ls) (hse : IntS w vs set) (hsz : szNet n ≤ 1048576) (hbig : ls.length ≤ 1048576) (hbig2 : set.length ≤ 1048576) :
    Calls Tryz.prog 24 #[.agg #[ve, vi, vn], .int .i64 r, vl, vs] w fun e w' => ∃ u, e = .returned (.tuple #[u, .bool (fnExactMoveSet_r1 n r ls set)]) ∧ Own w' w.heap.size u (fnExactMoveSet_d n r ls set) ∧ Below w.heap.size w w' := by
  obtain ⟨w0, hw0⟩ : ∃ w0, w0 = (w).alloc (.cells #[ve, vi, vn] 31) := ⟨_, rfl⟩
  have hb0 : Below w.heap.size w w0 := by rw [hw0]; exact ((Below.refl _ _).alloc (by simp) _)
  have H := Lib.hid (h.keep hb0)
  obtain ⟨h1, h2, h3⟩ := h.keep hb0
  obtain ⟨A, c, rfl, hlc, hm, hA⟩ := h1
  obtain ⟨A2, c2, rfl, _, hm2, _⟩ := h2
  obtain ⟨A3, c3, rfl, _, hm3, _⟩ := h3
  unfold maxLen at hm hm2 hm3
  have p00 : ∀ W, Since w0 W → W.cell? ⟨w.heap.size, 0, none⟩ = some (.slice A n.ends.length c) := have_cell (by rw [hw0]; simp)
  have p01 : ∀ W, Since w0 W → W.cell? ⟨w.heap.size, 1, none⟩ = some (.slice A2 n.ids.length c2) := have_cell (by rw [hw0]; simp)
  have p02 : ∀ W, Since w0 W → W.cell? ⟨w.heap.size, 2, none⟩ = some (.slice A3 n.inputs.length c3) := have_cell (by rw [hw0]; simp)
  have Hb0 := Lib.hid hb0
  have Hw0 := Lib.hid hw0
  have HA := Lib.hid hA
  clear hA h
  clear hb0 hw0
  have HL := Lib.hid (hl.keep Hb0.out)
  have HSe := Lib.hid (hse.keep Hb0.out)
  obtain ⟨AL, cL, rfl, hlL, hmL, _⟩ := hl
  obtain ⟨AP, cS, rfl, hlS, hmS, hAS⟩ := hse
  unfold maxLen at hmL hmS
  have HS := Lib.hid (show ∀ k x, set[k]? = some x → ∃ b off, AP = some ⟨b, off, none⟩ ∧ w0.cell? ⟨b, off + k, none⟩ = some (.int .i64 x) from fun k x hx => by obtain ⟨b, off, e, hc⟩ := hAS k x hx; exact ⟨b, off, e, bc Hb0.out hc⟩)
  have m1 : IntKind.i64.wrap ((ls.length : Int) - 1) = (ls.length : Int) - 1 := wr64 _ (by omega) (by omega)
  clear hAS
  go_enter Tryz.func24, Tryz.ntmps24
  go_upto_region 1 with (fail)
  rw [← Hw0.out]
  refine wp_region_flow0 13 (Since w0) (since_refl _) ?_
  simp only [List.take_succ_cons, List.take_zero, List.drop_succ_cons, List.drop_zero]
  refine flow_val (v := ?_) rfl ?_ ?_; rotate_left; (intro W hW; go_simp; with_reducible rfl)
  simp only [Act.put, List.setIfInBounds_toArray, List.set_cons_succ, List.set_cons_zero]
  refine flow_val (v := ?_) rfl ?_ ?_; rotate_left; (intro W hW; go_simp; with_reducible rfl)
  simp only [Act.put, List.setIfInBounds_toArray, List.set_cons_succ, List.set_cons_zero]
  refine flow_val (v := ?_) rfl ?_ ?_; rotate_left; (intro W hW; go_simp; with_reducible rfl)
  simp only [Act.put, List.setIfInBounds_toArray, List.set_cons_succ, List.set_cons_zero]
  refine flow_op ?_ rfl ?_ ?_; rotate_left; (intro W hW; unfold Gives; go_simp; (with_reducible refine (ssStates_any _ _ _ _ n r ls W (H.out.keep hW.below) (HL.out.keep hW.below) hsz).mono ?_); rintro e W' ⟨rfl, hb3⟩; first | (refine ⟨?_, Since.trans hW hb3⟩; with_reducible rfl) | (subst hb3; refine ⟨?_, hW⟩; with_reducible rfl))
  simp only [Act.put, List.setIfInBounds_toArray, List.set_cons_succ, List.set_cons_zero]
  refine flow_val (v := ?_) rfl ?_ ?_; rotate_left; (intro W hW; go_simp; with_reducible rfl)
  simp only [Act.put, List.setIfInBounds_toArray, List.set_cons_succ, List.set_cons_zero]
  refine flow_val (v := ?_) rfl ?_ ?_; rotate_left; (intro W hW; go_simp; with_reducible rfl)
  simp only [Act.put, List.setIfInBounds_toArray, List.set_cons_succ, List.set_cons_zero]
  refine flow_gval (v := ?_) rfl rfl ?_ ?_; rotate_left; (intro hb W hW; go_simp; with_reducible rfl)
  simp only [Act.put, List.setIfInBounds_toArray, List.set_cons_succ, List.set_cons_zero]
  refine flow_gval (v := ?_) rfl rfl ?_ ?_; rotate_left; (intro hb W hW; go_simp; with_reducible rfl)
  simp only [Act.put, List.setIfInBounds_toArray, List.set_cons_succ, List.set_cons_zero]
  refine flow_gval (v := ?_) rfl rfl ?_ ?_; rotate_left; (intro hb W hW; go_simp; with_reducible rfl)
  simp only [Act.put, List.setIfInBounds_toArray, List.set_cons_succ, List.set_cons_zero]
  refine flow_gval (v := ?_) rfl rfl ?_ ?_; rotate_left; (intro hb W hW; go_simp; with_reducible rfl)
  simp only [Act.put, List.setIfInBounds_toArray, List.set_cons_succ, List.set_cons_zero]
  refine flow_gop (v := ?_) rfl rfl ?_ ?_; rotate_left; (intro hb W hW; unfold Gives; go_simp; (with_reducible refine (l1Rising_any _ set _ _ W (HSe.out.keep hW.below)).mono ?_); rintro e W' ⟨rfl, hb3⟩; first | (refine ⟨?_, Since.trans hW hb3⟩; with_reducible rfl) | (subst hb3; refine ⟨?_, hW⟩; with_reducible rfl))
  simp only [Act.put, List.setIfInBounds_toArray, List.set_cons_succ, List.set_cons_zero]
  refine flow_gval (v := ?_) rfl rfl ?_ ?_; rotate_left; (intro hb W hW; go_simp; with_reducible rfl)
  simp only [Act.put, List.setIfInBounds_toArray, List.set_cons_succ, List.set_cons_zero]
  first | refine flow_or rfl rfl ?_ | (refine flow_val (v := ?_) rfl ?_ ?_; rotate_left; (intro W hW; go_simp; with_reducible rfl))
  simp only [Act.put, List.setIfInBounds_toArray, List.set_cons_succ, List.set_cons_zero]
  intro W hW
  cases hg : (!sitB n r ls || !risingB 0 ((ls.length : Int) - 1) set)
  · obtain ⟨hs, hsl, hin, hpre⟩ := mv_pre hg
    have Hs := Lib.hid hs
    have Hin := Lib.hid hin
    have Hpre := Lib.hid hpre
    have q00 := lift_cell p00 hW
    have q01 := lift_cell p01 hW
    have q02 := lift_cell p02 hW
    have hWW : Since W W := since_refl _
    obtain ⟨es, hes⟩ : ∃ es, es = enB n r ls := ⟨_, rfl⟩
    have hcall := ssEnabled_any _ _ _ _ n r ls W (H.out.keep hW.below) (HL.out.keep hW.below) hs
    rw [← hes] at hcall
    have Hcall := Lib.hid hcall
    have Hes := Lib.hid hes
    have HW := Lib.hid hW
    clear hg hs hin hpre hW p00 p01 p02 hcall hes
    go_wp2_with fail
    refine Hcall.out.mono ?_
    rintro e w1 ⟨u, rfl, ho, hb⟩
    have hs1 : Since W w1 := hb
    have HI := Lib.hid (show ∀ X, Since w1 X → IntS X u es from fun X hX => ho.ints.keep hX.below)
    obtain ⟨Bu, du, rfl, _⟩ := id ho.ints
    clear hb ho hWW
    have Hs1 := Lib.hid hs1
    clear hs1
    go_wp2
    go_loopw [32] (fun i wr => ∃ k : Nat, k ≤ set.length ∧ i = .int .i64 k ∧ (set.take k).all (hasB es) = true ∧ wr = w1) (fun i _ => set.length - (intOf i).toNat)
    case atStart => exact ⟨0, Nat.zero_le _, rfl, rfl, rfl⟩
    case round =>
      obtain ⟨k, hk, rfl, hall, hww⟩ := hrel
      subst hww
      have Hall := Lib.hid hall
      clear hall
      by_cases hlt : k < set.length
      · obtain ⟨x, hx⟩ := getx set k hlt
        obtain ⟨b, off, rfl, hcell⟩ := HS.out k x hx
        have d0 := (HW.out.after Hs1.out).cell hcell
        obtain ⟨z, hz⟩ : ∃ z, z = hasB es x := ⟨_, rfl⟩
        have Hz := Lib.hid hz
        have Hx := Lib.hid hx
        have m3 : IntKind.i64.wrap ((k : Int) + 1) = (k : Int) + 1 := wr64 _ (by omega) (by omega)
        clear hz hx hcell
        go_wp2_with fail
        refine (l1Has_any _ es x wr (HI.out _ (since_refl _))).mono ?_
        rw [← Hz.out]
        rintro e w2 ⟨rfl, rfl⟩
        cases z
        · have hr : mvOk n r ls set = false := by
            unfold mvOk
            rw [Hpre.out, Bool.true_and, ← Hes.out]
            exact all_stop Hx.out Hz.out.symm
          have Hr1 : Hid (false = fnExactMoveSet_r1 n r ls set) := hr.symm
          have Hd : Hid (fnExactMoveSet_d n r ls set = []) := by show _ = _; unfold fnExactMoveSet_d; rw [hr]; rfl
          clear hr
          go_wp2
          go_ret2
          exact ⟨_, tupub' Hr1.out, by rw [Hd.out]; exact own_nil _ _, Since.after Hb0.out (HW.out.after Hs1.out)⟩
        · have Hn : Hid ((set.take (k + 1)).all (hasB es) = true) := by show _ = _; rw [take_snoc Hx.out, List.all_append, Hall.out]; simp [← Hz.out]
          go_wp2
          go_roundw
          case rel => exact ⟨k + 1, by omega, by go_num, Hn.out, by first | rfl | trivial⟩
          case measure => simp [intOf]; omega
      · have hr : mvOk n r ls set = true := by
          have := Hall.out
          rw [show k = set.length by omega, List.take_length] at this
          unfold mvOk
          rw [Hpre.out, Bool.true_and, ← Hes.out]
          exact this
        have Hr1 : Hid (true = fnExactMoveSet_r1 n r ls set) := hr.symm
        have Hd : Hid (fnExactMoveSet_d n r ls set = moveB n r ls set) := by show _ = _; unfold fnExactMoveSet_d; rw [hr]; rfl
        clear hr
        obtain rfl : k = set.length := by omega
        have h01 := HW.out.after Hs1.out
        have z00 := q00 wr Hs1.out
        have z01 := q01 wr Hs1.out
        have z02 := q02 wr Hs1.out
        have H01 := Lib.hid h01
        clear h01
        go_wp2_with fail
        refine (ssMove_any _ _ _ _ _ n r ls set wr (H.out.keep H01.out.below) (HL.out.keep H01.out.below) (HSe.out.keep H01.out.below) Hs.out (by omega) Hin.out).mono ?_
        rintro e w3 ⟨u3, rfl, ho3, hb3⟩
        have Ho3 := Lib.hid (ho3.mono (Since.below H01.out).size)
        have Hs3 := Lib.hid (H01.out.trans hb3)
        clear ho3 hb3 z00 z01 z02
        go_wp2
        go_ret2
        exact ⟨_, tupub' Hr1.out, by rw [Hd.out]; exact Ho3.out.mono Hb0.out.size, Since.after Hb0.out Hs3.out⟩
  · have hr := mv_no hg
    have Hr1 : Hid (false = fnExactMoveSet_r1 n r ls set) := hr.symm
    have Hd : Hid (fnExactMoveSet_d n r ls set = []) := by show _ = _; unfold fnExactMoveSet_d; rw [hr]; rfl
    have HW := Lib.hid hW
    clear hg hW hr
    go_wp2
    go_ret2
    exact ⟨_, tupub' Hr1.out, by rw [Hd.out]; exact own_nil _ _, Since.after Hb0.out HW.out⟩
theorem mv1_ent : ∀ args w, (callFunc 65 args).run Tryz.prog w = .ok (.enter 65 args) w := enters_of Tryz.func65 (by kernel_rfl) rfl
set_option maxHeartbeats 1600000 in
theorem mv1_any (x : Int) (v : Value) (es : List Int) (b : Nat) (w : World) (h : IntS w v es) (hc : w.cell? ⟨b, 0, none⟩ = some v) :
    Calls Tryz.prog 65 #[.int .i64 x, .pointer (some ⟨b, 0, none⟩)] w fun e w' => e = .returned (.bool (!hasB es x)) ∧ Below w.heap.size w w' := by
  have HI := Lib.hid h
  obtain ⟨Bu, du, rfl, _⟩ := h
  obtain ⟨z, hz⟩ : ∃ z, z = hasB es x := ⟨_, rfl⟩
  rw [← hz]
  have Hz := Lib.hid hz
  clear hz
  go_enter Tryz.func65, Tryz.ntmps65
  go_wp2_with fail
  refine (containsI_any _ es x w HI.out).mono ?_
  rw [← Hz.out]
  rintro e w1 ⟨rfl, rfl⟩
  go_wp2
  go_ret
  exact ⟨rfl, Below.refl _ _⟩
set_option maxRecDepth 100000 in
set_option maxHeartbeats 1600000 in
theorem fnExactMoveSet_impl (ve vi vn : Value) (n : Net) (r : Int) (vl : Value) (ls : List Int) (vs : Value) (set : List Int) (w : World) (h : NetIn w ve vi vn n) (_ : -9223372036854775808 ≤ r ∧ r ≤ 9223372036854775807) (hl : IntS w vl ls) (hse : IntS w vs set) (hsz : szNet n ≤ 1048576) (hbig : ls.length ≤ 1048576) (hbig2 : set.length ≤ 1048576) :
    Calls Tryz.prog 25 #[.agg #[ve, vi, vn], .int .i64 r, vl, vs] w fun e w' => ∃ u, e = .returned (.tuple #[u, .bool (fnExactMoveSet_r1 n r ls set)]) ∧ Own w' w.heap.size u (fnExactMoveSet_d n r ls set) ∧ Below w.heap.size w w' := by
  obtain ⟨w0, hw0⟩ : ∃ w0, w0 = (w).alloc (.cells #[ve, vi, vn] 31) := ⟨_, rfl⟩
  have hb0 : Below w.heap.size w w0 := by rw [hw0]; exact ((Below.refl _ _).alloc (by simp) _)
  have H := Lib.hid (h.keep hb0)
  obtain ⟨h1, h2, h3⟩ := h.keep hb0
  obtain ⟨A, c, rfl, hlc, hm, hA⟩ := h1
  obtain ⟨A2, c2, rfl, _, hm2, _⟩ := h2
  obtain ⟨A3, c3, rfl, _, hm3, _⟩ := h3
  unfold maxLen at hm hm2 hm3
  have p00 : ∀ W, Since w0 W → W.cell? ⟨w.heap.size, 0, none⟩ = some (.slice A n.ends.length c) := have_cell (by rw [hw0]; simp)
  have p01 : ∀ W, Since w0 W → W.cell? ⟨w.heap.size, 1, none⟩ = some (.slice A2 n.ids.length c2) := have_cell (by rw [hw0]; simp)
  have p02 : ∀ W, Since w0 W → W.cell? ⟨w.heap.size, 2, none⟩ = some (.slice A3 n.inputs.length c3) := have_cell (by rw [hw0]; simp)
  have Hb0 := Lib.hid hb0
  have Hw0 := Lib.hid hw0
  have HA := Lib.hid hA
  clear hA h
  clear hb0 hw0
  have HL := Lib.hid (hl.keep Hb0.out)
  have HSe := Lib.hid (hse.keep Hb0.out)
  obtain ⟨AL, cL, rfl, hlL, hmL, _⟩ := hl
  obtain ⟨AP, cS, rfl, hlS, hmS, _⟩ := hse
  unfold maxLen at hmL hmS
  have m1 : IntKind.i64.wrap ((ls.length : Int) - 1) = (ls.length : Int) - 1 := wr64 _ (by omega) (by omega)
  go_enter Tryz.func25, Tryz.ntmps25
  go_upto_region 1 with (fail)
  rw [← Hw0.out]
  refine wp_region_flow0 13 (Since w0) (since_refl _) ?_
  simp only [List.take_succ_cons, List.take_zero, List.drop_succ_cons, List.drop_zero]
  refine flow_val (v := ?_) rfl ?_ ?_; rotate_left; (intro W hW; go_simp; with_reducible rfl)
  simp only [Act.put, List.setIfInBounds_toArray, List.set_cons_succ, List.set_cons_zero]
  refine flow_val (v := ?_) rfl ?_ ?_; rotate_left; (intro W hW; go_simp; with_reducible rfl)
  simp only [Act.put, List.setIfInBounds_toArray, List.set_cons_succ, List.set_cons_zero]
  refine flow_val (v := ?_) rfl ?_ ?_; rotate_left; (intro W hW; go_simp; with_reducible rfl)
  simp only [Act.put, List.setIfInBounds_toArray, List.set_cons_succ, List.set_cons_zero]
  refine flow_op ?_ rfl ?_ ?_; rotate_left; (intro W hW; unfold Gives; go_simp; (with_reducible refine (situationOk_any _ _ _ _ n r ls W (H.out.keep hW.below) (HL.out.keep hW.below) hsz).mono ?_); rintro e W' ⟨rfl, hb3⟩; first | (refine ⟨?_, Since.trans hW hb3⟩; with_reducible rfl) | (subst hb3; refine ⟨?_, hW⟩; with_reducible rfl))
  simp only [Act.put, List.setIfInBounds_toArray, List.set_cons_succ, List.set_cons_zero]
  refine flow_val (v := ?_) rfl ?_ ?_; rotate_left; (intro W hW; go_simp; with_reducible rfl)
  simp only [Act.put, List.setIfInBounds_toArray, List.set_cons_succ, List.set_cons_zero]
  refine flow_val (v := ?_) rfl ?_ ?_; rotate_left; (intro W hW; go_simp; with_reducible rfl)
  simp only [Act.put, List.setIfInBounds_toArray, List.set_cons_succ, List.set_cons_zero]
  refine flow_gval (v := ?_) rfl rfl ?_ ?_; rotate_left; (intro hb W hW; go_simp; with_reducible rfl)
  simp only [Act.put, List.setIfInBounds_toArray, List.set_cons_succ, List.set_cons_zero]
  refine flow_gval (v := ?_) rfl rfl ?_ ?_; rotate_left; (intro hb W hW; go_simp; with_reducible rfl)
  simp only [Act.put, List.setIfInBounds_toArray, List.set_cons_succ, List.set_cons_zero]
  refine flow_gval (v := ?_) rfl rfl ?_ ?_; rotate_left; (intro hb W hW; go_simp; with_reducible rfl)
  simp only [Act.put, List.setIfInBounds_toArray, List.set_cons_succ, List.set_cons_zero]
  refine flow_gval (v := ?_) rfl rfl ?_ ?_; rotate_left; (intro hb W hW; go_simp; with_reducible rfl)
  simp only [Act.put, List.setIfInBounds_toArray, List.set_cons_succ, List.set_cons_zero]
  refine flow_gop (v := ?_) rfl rfl ?_ ?_; rotate_left; (intro hb W hW; unfold Gives; go_simp; (with_reducible refine (increasing_any _ set _ _ W (HSe.out.keep hW.below)).mono ?_); rintro e W' ⟨rfl, hb3⟩; first | (refine ⟨?_, Since.trans hW hb3⟩; with_reducible rfl) | (subst hb3; refine ⟨?_, hW⟩; with_reducible rfl))
  simp only [Act.put, List.setIfInBounds_toArray, List.set_cons_succ, List.set_cons_zero]
  refine flow_gval (v := ?_) rfl rfl ?_ ?_; rotate_left; (intro hb W hW; go_simp; with_reducible rfl)
  simp only [Act.put, List.setIfInBounds_toArray, List.set_cons_succ, List.set_cons_zero]
  first | refine flow_or rfl rfl ?_ | (refine flow_val (v := ?_) rfl ?_ ?_; rotate_left; (intro W hW; go_simp; with_reducible rfl))
  simp only [Act.put, List.setIfInBounds_toArray, List.set_cons_succ, List.set_cons_zero]
  intro W hW
  cases hg : (!sitB n r ls || !risingB 0 ((ls.length : Int) - 1) set)
  · obtain ⟨hs, hsl, hin, hpre⟩ := mv_pre hg
    have Hs := Lib.hid hs
    have Hin := Lib.hid hin
    have Hpre := Lib.hid hpre
    have q00 := lift_cell p00 hW
    have q01 := lift_cell p01 hW
    have q02 := lift_cell p02 hW
    have hWW : Since W W := since_refl _
    obtain ⟨es, hes⟩ : ∃ es, es = enB n r ls := ⟨_, rfl⟩
    have hcall := enabledNodes_any _ _ _ _ n r ls W (H.out.keep hW.below) (HL.out.keep hW.below) hs
    rw [← hes] at hcall
    have Hcall := Lib.hid hcall
    have Hes := Lib.hid hes
    have HW := Lib.hid hW
    clear hg hs hin hpre hW p00 p01 p02 hcall hes
    go_wp2_with fail
    refine Hcall.out.mono ?_
    rintro e w1 ⟨u, rfl, ho, hb⟩
    have hs1 : Since W w1 := hb
    have HI := Lib.hid (show ∀ X, Since w1 X → IntS X u es from fun X hX => ho.ints.keep hX.below)
    obtain ⟨w2, hw2⟩ : ∃ w2, w2 = w1.alloc (.cells #[u] 23) := ⟨_, rfl⟩
    have hs12 : Since w1 w2 := by rw [hw2]; exact since_alloc _ (since_refl _)
    have Hc : Hid (∀ X, Since w2 X → X.cell? ⟨w1.heap.size, 0, none⟩ = some u) := have_cell (by rw [hw2]; simp)
    have HP : Hid (PredOn w2 65 #[.pointer (some ⟨w1.heap.size, 0, none⟩)] (fun x => !hasB es x) set) := fun x _ X hX => mv1_any x u es _ X (HI.out X (hs12.after hX)) (Hc.out X hX)
    have Hw2 := Lib.hid hw2
    have Hs2 := Lib.hid (HW.out.after (hs1.after hs12))
    have HW2 := Lib.hid (hs1.after hs12)
    obtain ⟨z, hz⟩ : ∃ z, z = set.any (fun x => !hasB es x) := ⟨_, rfl⟩
    have hcf := containsFunc_any _ set _ _ _ w2 (HSe.out.keep Hs2.out.below) mv1_ent HP.out
    rw [← hz] at hcf
    have Hcf := Lib.hid hcf
    have Hz := Lib.hid hz
    obtain ⟨Bu, du, rfl, _⟩ := id ho.ints
    clear hb ho hWW hs12 hw2 hcf hz HP Hc
    go_upto_region 4 with (fail)
    rw [← Hw2.out]
    go_wp2_with fail
    refine Hcf.out.mono ?_
    rintro e w3 ⟨rfl, hb3⟩
    have h3 : Since W w3 := Since.trans HW2.out hb3
    have Hs3 := Lib.hid (HW.out.after h3)
    clear hs1 hb3
    cases z
    · have hr : mvOk n r ls set = true := by
        unfold mvOk
        rw [Hpre.out, Bool.true_and, ← Hes.out, List.all_eq_true]
        intro x hx
        have := Hz.out.symm
        rw [List.any_eq_false] at this
        simpa using this x hx
      have Hr1 : Hid (true = fnExactMoveSet_r1 n r ls set) := hr.symm
      have Hd : Hid (fnExactMoveSet_d n r ls set = moveB n r ls set) := by show _ = _; unfold fnExactMoveSet_d; rw [hr]; rfl
      clear hr
      go_wp2_with fail
      refine (moveSet_any _ _ _ _ _ n r ls set w3 (H.out.keep Hs3.out.below) (HL.out.keep Hs3.out.below) (HSe.out.keep Hs3.out.below) Hs.out (by omega) Hin.out).mono ?_
      rintro e w4 ⟨u3, rfl, ho3, hb3⟩
      have Ho3 := Lib.hid (ho3.mono (Since.below Hs3.out).size)
      have Hs4 := Lib.hid (Hs3.out.trans hb3)
      clear ho3 hb3 h3
      go_wp2
      go_ret2
      exact ⟨_, tupub' Hr1.out, by rw [Hd.out]; exact Ho3.out.mono Hb0.out.size, Since.after Hb0.out Hs4.out⟩
    · have hr : mvOk n r ls set = false := by
        unfold mvOk
        rw [Hpre.out, Bool.true_and, ← Hes.out, List.all_eq_false]
        have := Hz.out.symm
        rw [List.any_eq_true] at this
        obtain ⟨x, hx, hn⟩ := this
        exact ⟨x, hx, by simpa using hn⟩
      have Hr1 : Hid (false = fnExactMoveSet_r1 n r ls set) := hr.symm
      have Hd : Hid (fnExactMoveSet_d n r ls set = []) := by show _ = _; unfold fnExactMoveSet_d; rw [hr]; rfl
      clear hr
      go_wp2
      go_ret2
      exact ⟨_, tupub' Hr1.out, by rw [Hd.out]; exact own_nil _ _, Since.after Hb0.out Hs3.out⟩
  · have hr := mv_no hg
    have Hr1 : Hid (false = fnExactMoveSet_r1 n r ls set) := hr.symm
    have Hd : Hid (fnExactMoveSet_d n r ls set = []) := by show _ = _; unfold fnExactMoveSet_d; rw [hr]; rfl
    have HW := Lib.hid hW
    clear hg hW hr
    go_wp2
    go_ret2
    exact ⟨_, tupub' Hr1.out, by rw [Hd.out]; exact own_nil _ _, Since.after Hb0.out HW.out⟩
end Go.Proofs.YtlfehdikgbgloaaGreat
