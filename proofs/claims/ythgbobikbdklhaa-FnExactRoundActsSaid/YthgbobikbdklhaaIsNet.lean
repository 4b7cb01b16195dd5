import Derived.Test.YthgbobikbdklhaaNetW
import Derived.Test.YthgbobikbdklhaaSorts
import Derived.Test.YthgbobikbdklhaaFlow
namespace Go.Proofs.Ythgbobikbdklhaa
open Go.RowKit
theorem range_all_succ {k : Nat} {p : Nat → Bool} : (List.range (k + 1)).all p = ((List.range k).all p && p k) := by rw [List.range_succ, List.all_append]; simp
theorem range_all_stop {n k : Nat} {p : Nat → Bool} (hk : k < n) (h : p k = false) : (List.range n).all p = false := by
  rw [List.all_eq_false]; exact ⟨k, List.mem_range.2 hk, by simp [h]⟩
/-- strictly rising and in a range -/
def risingB (lo hi : Int) (xs : List Int) : Bool := (List.range xs.length).all fun i => inB lo hi (xs.getD i 0) && (i == 0 || decide (xs.getD (i - 1) 0 < xs.getD i 0))
theorem getD_of {α : Type} {xs : List α} {k : Nat} {x d : α} (h : xs[k]? = some x) : xs.getD k d = x := by simp [h]
set_option maxHeartbeats 400000 in
theorem increasing_any (v : Value) (xs : List Int) (lo hi : Int) (w : World) (h : IntS w v xs) :
    Calls Try.prog 64 #[v, .int .i64 lo, .int .i64 hi] w fun e w' => e = .returned (.bool (risingB lo hi xs)) ∧ w = w' := by
  obtain ⟨A, c, rfl, hlc, hm, hA⟩ := h
  unfold maxLen at hm
  have HA := Lib.hid hA
  clear hA
  go_enter Try.func64, Try.ntmps64
  go_wp2
  go_loop [11] (fun i => ∃ k : Nat, k ≤ xs.length ∧ i = .int .i64 k ∧ ((List.range k).all fun i => inB lo hi (xs.getD i 0) && (i == 0 || decide (xs.getD (i - 1) 0 < xs.getD i 0))) = true) (fun i => xs.length - (intOf i).toNat)
  case atStart => exact ⟨0, Nat.zero_le _, rfl, rfl⟩
  case round =>
    obtain ⟨k, hk, rfl, hall⟩ := hrel
    have Hall := Lib.hid hall
    clear hall
    by_cases hlt : k < xs.length
    · obtain ⟨x, hx⟩ := getx xs k hlt
      obtain ⟨b, off, rfl, hcell⟩ := HA.out k x hx
      have Hx := Lib.hid hx
      cases hb : inB lo hi x
      · have Hb := Lib.hid hb
        clear hx
        go_wp2_with (go_at_call 51; refine (within_b _ _ _ _).mono ?_; rintro e w' ⟨rfl, rfl⟩)
        go_ret
        exact ⟨ret_false (range_all_stop hlt (by rw [getD_of Hx.out, Hb.out]; rfl)), rfl⟩
      · have Hb := Lib.hid hb
        by_cases hk0 : k = 0
        · subst hk0
          simp only [Nat.add_zero] at hcell
          clear hx
          go_wp2_with (go_at_call 51; refine (within_b _ _ _ _).mono ?_; rintro e w' ⟨rfl, rfl⟩)
          go_round
          case rel => exact ⟨0 + 1, by omega, by go_num, by rw [range_all_succ, Hall.out, getD_of Hx.out, Hb.out]; rfl⟩
          case measure => simp [intOf]; omega
        · obtain ⟨y, hy⟩ := getx xs (k - 1) (by omega)
          obtain ⟨b', off', he, hcell2⟩ := HA.out (k - 1) y hy
          injection he with he
          injection he with e1 e2
          subst e1 e2
          have Hy := Lib.hid hy
          have hk1 : 0 < k := by omega
          cases hyx : decide (x ≤ y)
          all_goals
            have Hyx := Lib.hid hyx
          · have hn : ¬ x ≤ y := by simpa using hyx
            clear hx hy hyx
            go_wp2_with (go_at_call 51; refine (within_b _ _ _ _).mono ?_; rintro e w' ⟨rfl, rfl⟩)
            go_round
            case rel => exact ⟨k + 1, by omega, by go_num, by rw [range_all_succ, Hall.out, getD_of Hx.out, getD_of Hy.out, Hb.out]; simp; omega⟩
            case measure => simp [intOf]; omega
          · have hn : x ≤ y := by simpa using hyx
            clear hx hy hyx
            go_wp2_with (go_at_call 51; refine (within_b _ _ _ _).mono ?_; rintro e w' ⟨rfl, rfl⟩)
            go_ret
            exact ⟨ret_false (range_all_stop hlt (by rw [getD_of Hx.out, getD_of Hy.out, Hb.out]; simp; omega)), rfl⟩
    · obtain rfl : k = xs.length := by omega
      go_wp2
      go_ret
      exact ⟨ret_true Hall.out, rfl⟩
/-- identifiers, as the program asks -/
def idsB (ids : List Int) (nodes : Int) : Bool := ids.isEmpty || ((ids.length : Int) == nodes && risingB 1 999999 (ids.mergeSort fun x y => decide (x ≤ y)))
theorem below_of_grown {w w1 w2 : World} {v : Value} {xs : List Int} (h : Below w.heap.size w w1) (ho : Own w1 w.heap.size v xs) (hg : w1.grownBy w2 v.ownBlock) : Below w.heap.size w w2 :=
  h.grown hg h.size (fun k hk => (World.ownsRow.lt ho k hk).1)
set_option maxHeartbeats 400000 in
theorem idsOk_any (v : Value) (ids : List Int) (nodes : Int) (w : World) (h : IntS w v ids) (hl : ids.length ≤ 17592186044416) :
    Calls Try.prog 52 #[v, .int .i64 nodes] w fun e w' => e = .returned (.bool (idsB ids nodes)) ∧ Below w.heap.size w w' := by
  have H := Lib.hid h
  obtain ⟨A, c, rfl, hlc, hm, hA⟩ := h
  clear hA
  unfold maxLen at hm
  by_cases h0 : ids.length = 0
  · obtain rfl : ids = [] := List.eq_nil_of_length_eq_zero h0
    go_enter Try.func52, Try.ntmps52
    go_wp2
    go_ret
    exact ⟨rfl, Below.refl _ _⟩
  · have h0' : (((ids.length : Nat) : Int) == 0) = false := by simp; intro h; simp [h] at h0
    have hemp : ids.isEmpty = false := by cases ids <;> simp_all
    have Hr := Lib.hid (show idsB ids nodes = ((ids.length : Int) == nodes && risingB 1 999999 (ids.mergeSort fun x y => decide (x ≤ y))) by simp [idsB, hemp])
    clear hemp h0
    cases hn : ((ids.length : Int) == nodes)
    all_goals
      have Hn := Lib.hid hn
      go_enter Try.func52, Try.ntmps52
      go_wp2_with fail
      refine (clone_any _ ids _ H.out hl).mono ?_
      rintro e w1 ⟨u, rfl, ho, hb⟩
      have Ho := Lib.hid ho
      have Hb := Lib.hid hb
      clear ho hb
      go_wp2_with fail
      refine (sort_any _ ids _ _ Ho.out hl).mono ?_
      rintro e w2 ⟨rfl, ho2, hg⟩
      have Ho2 := Lib.hid ho2
      have Hb2 := Lib.hid (below_of_grown Hb.out Ho.out hg)
      clear ho2 hg
      go_wp2_with fail
    · go_ret
      exact ⟨ret_false (by rw [Hr.out, Hn.out]; rfl), Hb2.out⟩
    · refine (increasing_any _ _ _ _ _ Ho2.out.ints).mono ?_
      rintro e w3 ⟨rfl, rfl⟩
      go_wp2
      go_ret
      exact ⟨ret_bool (by rw [Hr.out, Hn.out]; rfl), Hb2.out⟩
/-- inputs, as the program asks -/
def inputsB (inputs : List Int) (nodes : Int) : Bool := (inputs.length : Int) == nodes && inputs.all (inB 0 9)
theorem inputsOk_any (v : Value) (xs : List Int) (nodes : Int) (w : World) (h : IntS w v xs) :
    Calls Try.prog 53 #[v, .int .i64 nodes] w fun e w' => e = .returned (.bool (inputsB xs nodes)) ∧ Below w.heap.size w w' := by
  have H := Lib.hid h
  obtain ⟨A, c, rfl, hlc, hm, hA⟩ := h
  clear hA
  unfold maxLen at hm
  unfold inputsB
  cases hn : ((xs.length : Int) == nodes)
  all_goals
    go_enter Try.func53, Try.ntmps53
    go_wp2_with fail
  · go_ret
    exact ⟨rfl, Below.refl _ _⟩
  · refine (allWithin_any _ xs _ _ _ H.out).mono ?_
    rintro e w1 ⟨rfl, hb⟩
    have Hb := Lib.hid hb
    clear hb
    go_wp2
    go_ret
    exact ⟨rfl, Hb.out⟩
theorem hasNode_any (ve vi vn : Value) (ess : List (List (Int × Int))) (v : Int) (w : World) (h : EndSS w ve ess) :
    Calls Try.prog 57 #[.agg #[ve, vi, vn], .int .i64 v] w fun e w' => e = .returned (.bool (inB 0 ((ess.length : Int) - 1) v)) ∧ Below w.heap.size w w' := by
  obtain ⟨A, c, rfl, hlc, hm, hA⟩ := h
  clear hA
  unfold maxLen at hm
  go_enter Try.func57, Try.ntmps57
  go_wp2_with (go_at_call 51; refine (within_b _ _ _ _).mono ?_; rintro e w' ⟨rfl, rfl⟩)
  go_ret
  exact ⟨rfl, below_alloc _ _⟩
/-- is there a port? -/
def hasPortB (ess : List (List (Int × Int))) (v i : Int) : Bool := inB 0 ((ess.length : Int) - 1) v && inB 0 (((ess.getD v.toNat []).length : Int) - 1) i
set_option maxHeartbeats 400000 in
theorem hasPort_any (ve vi vn : Value) (ess : List (List (Int × Int))) (v i : Int) (w : World) (h : EndSS w ve ess) :
    Calls Try.prog 42 #[.agg #[ve, vi, vn], .int .i64 v, .int .i64 i] w fun e w' => e = .returned (.bool (hasPortB ess v i)) ∧ Below w.heap.size w w' := by
  have hb0 : Below w.heap.size w (w.alloc (.cells #[ve, vi, vn] 32)) := below_alloc _ _
  have H := Lib.hid (h.keep hb0)
  obtain ⟨A, c, rfl, hlc, hm, hA⟩ := h
  unfold maxLen at hm
  have Hb0 := Lib.hid hb0
  clear hb0
  unfold hasPortB
  cases hn : inB 0 ((ess.length : Int) - 1) v
  · clear hA
    go_enter Try.func42, Try.ntmps42
    go_wp2_with fail
    refine (hasNode_any _ _ _ ess v _ H.out).mono ?_
    rintro e w1 ⟨rfl, hb1⟩
    have Hb1 := Lib.hid (Hb0.out.trans (hb1.mono (by simp)))
    clear hb1
    go_wp2
    go_ret
    exact ⟨rfl, Hb1.out⟩
  · obtain ⟨hv0, hv1⟩ := inB_iff.1 hn
    obtain ⟨k, rfl⟩ := Int.eq_ofNat_of_zero_le hv0
    have hk : k < ess.length := by omega
    obtain ⟨es, hes⟩ := getx ess k hk
    obtain ⟨b, off, u, rfl, hc1, hr⟩ := hA k es hes
    obtain ⟨A1, z1, rfl, hz1, hz2, _⟩ := hr
    unfold maxLen at hz2
    have hg := Lib.hid (show (ess.getD ((k : Int)).toNat []) = es by rw [Int.toNat_natCast, getD_of hes])
    rw [hg.out]
    have hc2 := bc Hb0.out hc1
    clear hA hes hc1
    go_enter Try.func42, Try.ntmps42
    go_wp2_with fail
    refine (hasNode_any _ _ _ ess k _ H.out).mono ?_
    rintro e w1 ⟨rfl, hb1⟩
    have hc3 := bc hb1 hc2
    have hc4 : w1.cell? ⟨w.heap.size, 0, none⟩ = some (.slice (some ⟨b, off, none⟩) ess.length c) := bc hb1 (by simp)
    have Hb1 := Lib.hid (Hb0.out.trans (hb1.mono (by simp)))
    clear hb1 hc2
    go_wp2_with (go_at_call 51; refine (within_b _ _ _ _).mono ?_; rintro e w' ⟨rfl, rfl⟩)
    go_ret
    exact ⟨rfl, Hb1.out⟩
/-- does an end lead back? -/
def endOkB (ess : List (List (Int × Int))) (v i : Nat) (e : Int × Int) : Bool := hasPortB ess e.1 e.2 && eqE ((ess.getD e.1.toNat []).getD e.2.toNat (0, 0)) ((v : Int), (i : Int))
def rowOkB (ess : List (List (Int × Int))) (v : Nat) (es : List (Int × Int)) : Bool := decide (es.length ≤ 6) && (List.range es.length).all fun i => endOkB ess v i (es.getD i (0, 0))
/-- IsNetwork -/
def netOk (n : Net) : Bool := inB 1 40 n.ends.length && idsB n.ids n.ends.length && inputsB n.inputs n.ends.length && (List.range n.ends.length).all fun v => rowOkB n.ends v (n.ends.getD v [])
set_option maxHeartbeats 1000000 in
theorem isNetwork_any (ve vi vn : Value) (n : Net) (w : World) (h : NetIn w ve vi vn n) (hl : n.ids.length ≤ 17592186044416) :
    Calls Try.prog 31 #[.agg #[ve, vi, vn]] w fun e w' => e = .returned (.bool (netOk n)) ∧ Below w.heap.size w w' := by
  have hb0 : Below w.heap.size w (w.alloc (.cells #[ve, vi, vn] 32)) := below_alloc _ _
  have H := Lib.hid (h.keep hb0)
  obtain ⟨h1, h2, h3⟩ := h
  obtain ⟨A, c, rfl, hlc, hm, hA⟩ := h1
  obtain ⟨A2, c2, rfl, _, hm2, _⟩ := h2
  obtain ⟨A3, c3, rfl, _, hm3, _⟩ := h3
  unfold maxLen at hm hm2 hm3
  have Hb0 := Lib.hid hb0
  have HA := Lib.hid hA
  clear hb0 hA
  cases t1 : inB 1 40 (n.ends.length : Int)
  · have hr := Lib.hid (show netOk n = false by simp [netOk, t1])
    go_enter Try.func31, Try.ntmps31
    go_wp2_with (go_at_call 51; refine (within_b _ _ _ _).mono ?_; rintro e w' ⟨rfl, rfl⟩)
    go_ret
    exact ⟨ret_false hr.out, Hb0.out⟩
  · cases t2 : idsB n.ids n.ends.length
    · have hr := Lib.hid (show netOk n = false by simp [netOk, t2])
      go_enter Try.func31, Try.ntmps31
      go_wp2_with (go_at_call 51; refine (within_b _ _ _ _).mono ?_; rintro e w' ⟨rfl, rfl⟩)
      refine (idsOk_any _ n.ids _ _ H.out.2.1 hl).mono ?_
      rintro e w1 ⟨rfl, hb1⟩
      have Hb1 := Lib.hid (Hb0.out.trans (hb1.mono (by simp)))
      clear hb1
      go_wp2
      go_ret
      exact ⟨ret_false hr.out, Hb1.out⟩
    · cases t3 : inputsB n.inputs n.ends.length
      · have hr := Lib.hid (show netOk n = false by simp [netOk, t3])
        go_enter Try.func31, Try.ntmps31
        go_wp2_with (go_at_call 51; refine (within_b _ _ _ _).mono ?_; rintro e w' ⟨rfl, rfl⟩)
        refine (idsOk_any _ n.ids _ _ H.out.2.1 hl).mono ?_
        rintro e w1 ⟨rfl, hb1⟩
        have Hb1 := Lib.hid (Hb0.out.trans (hb1.mono (by simp)))
        have H1 := Lib.hid (H.out.keep hb1)
        have d0 : w1.cell? ⟨w.heap.size, 0, none⟩ = some (.slice A n.ends.length c) := bc hb1 (by simp)
        have d2 : w1.cell? ⟨w.heap.size, 2, none⟩ = some (.slice A3 n.inputs.length c3) := bc hb1 (by simp)
        clear hb1
        go_wp2_with fail
        refine (inputsOk_any _ n.inputs _ _ H1.out.2.2).mono ?_
        rintro e w2 ⟨rfl, hb2⟩
        have Hb2 := Lib.hid (Hb1.out.trans (hb2.mono Hb1.out.size))
        clear hb2
        go_wp2
        go_ret
        exact ⟨ret_false hr.out, Hb2.out⟩
      · have hr := Lib.hid (show netOk n = (List.range n.ends.length).all fun v => rowOkB n.ends v (n.ends.getD v []) by simp [netOk, t1, t2, t3])
        go_enter Try.func31, Try.ntmps31
        go_wp2_with (go_at_call 51; refine (within_b _ _ _ _).mono ?_; rintro e w' ⟨rfl, rfl⟩)
        refine (idsOk_any _ n.ids _ _ H.out.2.1 hl).mono ?_
        rintro e w1 ⟨rfl, hb1⟩
        have Hb1 := Lib.hid (Hb0.out.trans (hb1.mono (by simp)))
        have H1 := Lib.hid (H.out.keep hb1)
        have d0 : w1.cell? ⟨w.heap.size, 0, none⟩ = some (.slice A n.ends.length c) := bc hb1 (by simp)
        have d1 : w1.cell? ⟨w.heap.size, 1, none⟩ = some (.slice A2 n.ids.length c2) := bc hb1 (by simp)
        have d2 : w1.cell? ⟨w.heap.size, 2, none⟩ = some (.slice A3 n.inputs.length c3) := bc hb1 (by simp)
        clear hb1
        go_wp2_with fail
        refine (inputsOk_any _ n.inputs _ _ H1.out.2.2).mono ?_
        rintro e w2 ⟨rfl, hb2⟩
        have Hb2 := Lib.hid (Hb1.out.trans (hb2.mono Hb1.out.size))
        have H2 := Lib.hid (H1.out.keep hb2)
        have e0 := bc hb2 d0
        have e1 := bc hb2 d1
        have e2 := bc hb2 d2
        have hsz : w.heap.size < w2.heap.size := World.block_lt_of_cell? w2 _ e0
        have E := Lib.hid (And.intro e0 (And.intro e1 e2))
        clear hb2 d0 d1 d2 H H1
        go_wp2
        go_loopw [33] (fun i wr => ∃ k : Nat, k ≤ n.ends.length ∧ i = .int .i64 k ∧ ((List.range k).all fun v => rowOkB n.ends v (n.ends.getD v [])) = true ∧ Below w2.heap.size w2 wr) (fun i _ => n.ends.length - (intOf i).toNat)
        case atStart => exact ⟨0, Nat.zero_le _, rfl, rfl, Below.refl _ _⟩
        case round =>
          obtain ⟨k, hk, rfl, hall, hbr⟩ := hrel
          have Hall := Lib.hid hall
          have Hbr := Lib.hid hbr
          clear hall hbr
          by_cases hlt : k < n.ends.length
          · obtain ⟨es, hes⟩ := getx n.ends k hlt
            obtain ⟨b, off, u, rfl, hc1, hrow⟩ := HA.out k es hes
            have hbA := Hb2.out.trans (Hbr.out.mono Hb2.out.size)
            have hc2 := bc hbA hc1
            have Hrow := Lib.hid (hrow.keep hbA)
            obtain ⟨A1, z1, rfl, hz1, hz2, hA1⟩ := hrow
            have HA1 := Lib.hid hA1
            unfold maxLen at hz2
            have Hes := Lib.hid hes
            have HbA := Lib.hid hbA
            clear hes hbA hc1 hA1
            by_cases h6 : es.length ≤ 6
            · go_wp2
              obtain ⟨wo, rfl⟩ : ∃ wo : World, wo = wr := ⟨_, rfl⟩
              go_loopw [43] (fun i wq => ∃ j : Nat, j ≤ es.length ∧ i = .int .i64 j ∧ ((List.range j).all fun i => endOkB n.ends k i (es.getD i (0, 0))) = true ∧ Below wo.heap.size wo wq) (fun i _ => es.length - (intOf i).toNat)
              case atStart => exact ⟨0, Nat.zero_le _, rfl, rfl, Below.refl _ _⟩
              case round =>
                obtain ⟨j, hj, rfl, hall2, hbq⟩ := hrel
                have Hall2 := Lib.hid hall2
                have Hbq := Lib.hid hbq
                have hbB := HbA.out.trans (hbq.mono HbA.out.size)
                have hbC := Hbr.out.trans (hbq.mono Hbr.out.size)
                clear hall2 hbq
                by_cases hlt2 : j < es.length
                · obtain ⟨⟨x1, x2⟩, he⟩ := getx es j hlt2
                  obtain ⟨b1, off1, rfl, hd1, hd2⟩ := HA1.out j _ he
                  have q1 := bc hbB hd1
                  have q2 := bc hbB hd2
                  obtain ⟨n0, n1, n2⟩ := E.out
                  have m0 := bc hbC n0
                  have m1 := bc hbC n1
                  have m2 := bc hbC n2
                  have hszq : w.heap.size < wr.heap.size := World.block_lt_of_cell? wr _ m0
                  have He := Lib.hid he
                  have HbB := Lib.hid hbB
                  have HN := Lib.hid (H2.out.1.keep hbC)
                  clear he hbB hbC n0 n1 n2 hd1 hd2 hc2
                  cases hp : hasPortB n.ends x1 x2
                  · have Hp := Lib.hid hp
                    go_wp2
                    obtain ⟨w0, hw0⟩ : ∃ w0, (wr.alloc (Obj.cells #[Value.int IntKind.i64 x1, Value.int IntKind.i64 x2] 57)) = w0 := ⟨_, rfl⟩
                    rw [hw0]
                    have hbw : Below wr.heap.size wr w0 := by rw [← hw0]; exact below_alloc _ _
                    have hi0 : ∀ W, Since w0 W → W.cell? ⟨w.heap.size, 0, none⟩ = some (.slice (some ⟨b, off, none⟩) n.ends.length c) := fun W hW => bc hW (bc hbw m0)
                    have hi1 : ∀ W, Since w0 W → W.cell? ⟨w.heap.size, 1, none⟩ = some (.slice A2 n.ids.length c2) := fun W hW => bc hW (bc hbw m1)
                    have hi2 : ∀ W, Since w0 W → W.cell? ⟨w.heap.size, 2, none⟩ = some (.slice A3 n.inputs.length c3) := fun W hW => bc hW (bc hbw m2)
                    have hi3 : ∀ W, Since w0 W → W.cell? ⟨wr.heap.size, 0, none⟩ = some (.int .i64 x1) := fun W hW => bc hW (by rw [← hw0]; simp)
                    have hi4 : ∀ W, Since w0 W → W.cell? ⟨wr.heap.size, 1, none⟩ = some (.int .i64 x2) := fun W hW => bc hW (by rw [← hw0]; simp)
                    have HN0 := Lib.hid (HN.out.keep hbw)
                    have Hbw := Lib.hid hbw
                    clear hw0 hbw m0 m1 m2
                    refine wp_region_flow 23 (Since w0) (by kernel_rfl) (by kernel_rfl) (by simp) (Since.drew w0) ?_
                    simp only [List.take_succ_cons, List.take_zero, List.drop_succ_cons, List.drop_zero]
                    iterate 5 (refine flow_val (v := ?_) rfl ?_ ?_; rotate_left; (intro W hW; go_simp; with_reducible rfl); simp only [Act.put, List.setIfInBounds_toArray, List.set_cons_succ, List.set_cons_zero])
                    refine flow_op (.bool false) rfl (fun W hW => ?_) ?_
                    · unfold Gives
                      go_simp
                      refine (hasPort_any _ _ _ n.ends x1 x2 W (HN0.out.keep hW)).mono ?_
                      rintro e W' ⟨rfl, hb3⟩
                      exact ⟨by rw [Hp.out], hW.trans hb3⟩
                    simp only [Act.put, List.setIfInBounds_toArray, List.set_cons_succ, List.set_cons_zero]
                    iterate 2 (refine flow_val (v := ?_) rfl ?_ ?_; rotate_left; (intro W hW; go_simp; with_reducible rfl); simp only [Act.put, List.setIfInBounds_toArray, List.set_cons_succ, List.set_cons_zero])
                    iterate 14 (refine flow_skip rfl ?_; simp only [Act.put, List.setIfInBounds_toArray, List.set_cons_succ, List.set_cons_zero])
                    iterate 1 (refine flow_val (v := ?_) rfl ?_ ?_; rotate_left; (intro W hW; go_simp; with_reducible rfl); simp only [Act.put, List.setIfInBounds_toArray, List.set_cons_succ, List.set_cons_zero])
                    intro W hW
                    have HW := Lib.hid hW
                    clear hW
                    go_wp2
                    go_ret
                    exact ⟨ret_false (by rw [hr.out]; refine range_all_stop hlt ?_; rw [getD_of Hes.out]; simp only [rowOkB]; rw [Bool.and_eq_false_iff]; exact .inr (range_all_stop hlt2 (by rw [getD_of He.out]; simp [endOkB, Hp.out]))), (HbB.out.trans (Hbw.out.mono HbB.out.size)).trans ((show Below w0.heap.size w0 W from HW.out).mono (by have := HbB.out.size; have := Hbw.out.size; omega))⟩
                  · have Hp := Lib.hid hp
                    have hp2 := hp
                    unfold hasPortB at hp2
                    rw [Bool.and_eq_true] at hp2
                    obtain ⟨p1, p2⟩ := hp2
                    obtain ⟨p3, p4⟩ := inB_iff.1 p1
                    obtain ⟨k1, rfl⟩ := Int.eq_ofNat_of_zero_le p3
                    have hk1 : k1 < n.ends.length := by omega
                    obtain ⟨es1, hes1⟩ := getx n.ends k1 hk1
                    rw [Int.toNat_natCast, getD_of hes1] at p2
                    obtain ⟨p5, p6⟩ := inB_iff.1 p2
                    obtain ⟨i1, rfl⟩ := Int.eq_ofNat_of_zero_le p5
                    have hi1 : i1 < es1.length := by omega
                    obtain ⟨⟨y1, y2⟩, hy⟩ := getx es1 i1 hi1
                    obtain ⟨b2, off2, u', hA', hc3, hrow'⟩ := HA.out k1 es1 hes1
                    injection hA' with hA'
                    injection hA' with q3 q4
                    subst q3 q4
                    obtain ⟨A1', z1', rfl, hz1', hz2', hA1'⟩ := hrow'
                    obtain ⟨b3, off3, rfl, hc5, hc6⟩ := hA1' i1 _ hy
                    unfold maxLen at hz2'
                    have Hy := Lib.hid hy
                    have Hes1 := Lib.hid hes1
                    have g3 := bc HbB.out hc3
                    have g5 := bc HbB.out hc5
                    have g6 := bc HbB.out hc6
                    clear hes1 hy hc3 hc5 hc6 hA1' p1 p2 hp
                    go_wp2
                    obtain ⟨w0, hw0⟩ : ∃ w0, (wr.alloc (Obj.cells #[Value.int IntKind.i64 (k1 : Int), Value.int IntKind.i64 (i1 : Int)] 57)) = w0 := ⟨_, rfl⟩
                    rw [hw0]
                    have hbw : Below wr.heap.size wr w0 := by rw [← hw0]; exact below_alloc _ _
                    have i0 : ∀ W, Since w0 W → W.cell? ⟨w.heap.size, 0, none⟩ = some (.slice (some ⟨b, off, none⟩) n.ends.length c) := fun W hW => bc hW (bc hbw m0)
                    have i1' : ∀ W, Since w0 W → W.cell? ⟨w.heap.size, 1, none⟩ = some (.slice A2 n.ids.length c2) := fun W hW => bc hW (bc hbw m1)
                    have i2 : ∀ W, Since w0 W → W.cell? ⟨w.heap.size, 2, none⟩ = some (.slice A3 n.inputs.length c3) := fun W hW => bc hW (bc hbw m2)
                    have i3 : ∀ W, Since w0 W → W.cell? ⟨wr.heap.size, 0, none⟩ = some (.int .i64 (k1 : Int)) := fun W hW => bc hW (by rw [← hw0]; simp)
                    have i4 : ∀ W, Since w0 W → W.cell? ⟨wr.heap.size, 1, none⟩ = some (.int .i64 (i1 : Int)) := fun W hW => bc hW (by rw [← hw0]; simp)
                    have i5 : ∀ W, Since w0 W → W.cell? ⟨b, off + k1, none⟩ = some (.slice (some ⟨b3, off3, none⟩) es1.length z1') := fun W hW => bc hW (bc hbw g3)
                    have i6 : ∀ W, Since w0 W → W.cell? ⟨b3, off3 + i1 * 2, none⟩ = some (.int .i64 y1) := fun W hW => bc hW (bc hbw g5)
                    have i7 : ∀ W, Since w0 W → W.cell? ⟨b3, off3 + i1 * 2 + 1, none⟩ = some (.int .i64 y2) := fun W hW => bc hW (bc hbw g6)
                    have HN0 := Lib.hid (HN.out.keep hbw)
                    have Hbw := Lib.hid hbw
                    clear hw0 hbw m0 m1 m2 g3 g5 g6
                    refine wp_region_flow 23 (Since w0) (by kernel_rfl) (by kernel_rfl) (by simp) (Since.drew w0) ?_
                    simp only [List.take_succ_cons, List.take_zero, List.drop_succ_cons, List.drop_zero]
                    iterate 5 (refine flow_val (v := ?_) rfl ?_ ?_; rotate_left; (intro W hW; go_simp; with_reducible rfl); simp only [Act.put, List.setIfInBounds_toArray, List.set_cons_succ, List.set_cons_zero])
                    refine flow_op (.bool true) rfl (fun W hW => ?_) ?_
                    · unfold Gives
                      go_simp
                      refine (hasPort_any _ _ _ n.ends k1 i1 W (HN0.out.keep hW)).mono ?_
                      rintro e W' ⟨rfl, hb3⟩
                      exact ⟨by rw [Hp.out], hW.trans hb3⟩
                    simp only [Act.put, List.setIfInBounds_toArray, List.set_cons_succ, List.set_cons_zero]
                    iterate 15 (refine flow_val (v := ?_) rfl ?_ ?_; rotate_left; (intro W hW; go_simp; with_reducible rfl); simp only [Act.put, List.setIfInBounds_toArray, List.set_cons_succ, List.set_cons_zero])
                    refine flow_op (.bool (!eqE (y1, y2) ((k : Int), (j : Int)))) rfl (fun W hW => ?_) ?_
                    · unfold Gives
                      go_simp
                      by_cases f1 : y1 = (k : Int)
                      · by_cases f2 : y2 = (j : Int)
                        · simp [f1, f2, eqE, hW]
                        · simp [f1, f2, eqE, hW]
                      · simp [f1, eqE, hW]
                    simp only [Act.put, List.setIfInBounds_toArray, List.set_cons_succ, List.set_cons_zero]
                    cases hq : eqE (y1, y2) ((k : Int), (j : Int))
                    all_goals
                      have Hq := Lib.hid hq
                      clear hq
                      iterate 1 (refine flow_val (v := ?_) rfl ?_ ?_; rotate_left; (intro W hW; go_simp; with_reducible rfl); simp only [Act.put, List.setIfInBounds_toArray, List.set_cons_succ, List.set_cons_zero])
                      intro W hW
                      have HW := Lib.hid hW
                      have HbW := Lib.hid ((HbB.out.trans (Hbw.out.mono HbB.out.size)).trans ((show Below w0.heap.size w0 W from hW).mono (by have := HbB.out.size; have := Hbw.out.size; omega)))
                      have HbW2 := Lib.hid ((Hbq.out.trans (Hbw.out.mono Hbq.out.size)).trans ((show Below w0.heap.size w0 W from hW).mono (by have := Hbq.out.size; have := Hbw.out.size; omega)))
                      clear hW
                      go_wp2
                    · go_ret
                      exact ⟨ret_false (by rw [hr.out]; refine range_all_stop hlt ?_; rw [getD_of Hes.out]; simp only [rowOkB]; rw [Bool.and_eq_false_iff]; exact .inr (range_all_stop hlt2 (by rw [getD_of He.out]; simp [endOkB, Hp.out, Hes1.out, Hy.out, Hq.out]))), HbW.out⟩
                    · go_roundw
                      case rel => exact ⟨j + 1, by omega, by go_num, by rw [range_all_succ, Hall2.out, getD_of He.out]; simp [endOkB, Hp.out, Hes1.out, Hy.out, Hq.out], HbW2.out⟩
                      case measure => simp [intOf]; omega
                · obtain rfl : j = es.length := by omega
                  have Hbq2 := Lib.hid hbC
                  clear hbB hbC
                  go_wp2
                  go_roundw
                  case rel => exact ⟨k + 1, by omega, by go_num, by rw [range_all_succ, Hall.out, getD_of Hes.out, Bool.true_and]; unfold rowOkB; rw [Hall2.out]; simp [h6], Hbq2.out⟩
                  case measure => simp [intOf]; omega
            · go_wp2
              go_ret
              exact ⟨ret_false (by rw [hr.out]; exact range_all_stop hlt (by rw [getD_of Hes.out]; simp [rowOkB, h6])), HbA.out⟩
          · obtain rfl : k = n.ends.length := by omega
            go_wp2
            go_ret
            exact ⟨ret_true (by rw [hr.out]; exact Hall.out), Hb2.out.trans (Hbr.out.mono Hb2.out.size)⟩
end Go.Proofs.Ythgbobikbdklhaa
