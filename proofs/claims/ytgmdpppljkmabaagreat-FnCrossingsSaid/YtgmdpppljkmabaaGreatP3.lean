/- Parts of the proof: walks of functions and plain laws. -/
import Derived.Test.YtgmdpppljkmabaaGreatP0
import Derived.Test.YtgmdpppljkmabaaGreatP1
import Derived.Test.YtgmdpppljkmabaaGreatP2
import Derived.Deep.AppendLies
import Derived.Deep.RegionHeld3
namespace Go.Proofs.YtgmdpppljkmabaaGreat
open Go.RowKit
theorem range_all_succ {k : Nat} {p : Nat → Bool} : (List.range (k + 1)).all p = ((List.range k).all p && p k) := by rw [List.range_succ, List.all_append]; simp
theorem range_all_stop {n k : Nat} {p : Nat → Bool} (hk : k < n) (h : p k = false) : (List.range n).all p = false := by
 rw [List.all_eq_false]; exact ⟨k, List.mem_range.2 hk, by simp [h]⟩
def risingB (lo hi : Int) (xs : List Int) : Bool := (List.range xs.length).all fun i => inB lo hi (xs.getD i 0) && (i == 0 || decide (xs.getD (i - 1) 0 < xs.getD i 0))
theorem getD_of {α : Type} {xs : List α} {k : Nat} {x d : α} (h : xs[k]? = some x) : xs.getD k d = x := by simp [h]
set_option maxHeartbeats 400000 in
theorem increasing_any (v : Value) (xs : List Int) (lo hi : Int) (w : World) (h : IntS w v xs) :
  Calls Tryz.prog 197 #[v, .int .i64 lo, .int .i64 hi] w fun e w' => e = .returned (.bool (risingB lo hi xs)) ∧ w = w' := by
 obtain ⟨A, c, rfl, hlc, hm, hA⟩ := h
 unfold maxLen at hm
 have HA := Lib.hid hA
 clear hA
 go_enter Tryz.func197, Tryz.ntmps197
 go_wp2
 go_loop [11] (fun i => ∃ k : Nat, k ≤ xs.length ∧ i = .int .i64 k ∧ ((List.range k).all fun i => inB lo hi (xs.getD i 0) && (i == 0 || decide (xs.getD (i - 1) 0 < xs.getD i 0))) = true) (fun i => xs.length - (intOf i).toNat)
 case atStart => exact ⟨0, Nat.zero_le _, rfl, rfl⟩
 case round =>
  obtain ⟨k, hk, rfl, hall⟩ := hrel
  have Hall := Lib.hid hall
  clear hall
  by_cases hlt : k < xs.length
  ·obtain ⟨x, hx⟩ := getx xs k hlt
   obtain ⟨b, off, rfl, hcell⟩ := HA.out k x hx
   have Hx := Lib.hid hx
   cases hb : inB lo hi x
   ·have Hb := Lib.hid hb
    clear hx
    go_wp2_with (go_at_call 71; refine (within_b _ _ _ _).mono ?_; rintro e w' ⟨rfl, rfl⟩)
    go_ret
    exact ⟨ret_false (range_all_stop hlt (by rw [getD_of Hx.out, Hb.out]; rfl)), rfl⟩
   ·have Hb := Lib.hid hb
    by_cases hk0 : k = 0
    ·subst hk0
     simp only [Nat.add_zero] at hcell
     clear hx
     go_wp2_with (go_at_call 71; refine (within_b _ _ _ _).mono ?_; rintro e w' ⟨rfl, rfl⟩)
     go_round
     case rel => exact ⟨0 + 1, by omega, by go_num, by rw [range_all_succ, Hall.out, getD_of Hx.out, Hb.out]; rfl⟩
     case measure => simp [intOf]; omega
    ·obtain ⟨y, hy⟩ := getx xs (k - 1) (by omega)
     obtain ⟨b', off', he, hcell2⟩ := HA.out (k - 1) y hy
     injection he with he
     injection he with e1 e2
     subst e1 e2
     have Hy := Lib.hid hy
     have hk1 : 0 < k := by omega
     cases hyx : decide (x ≤ y)
     all_goals
      have Hyx := Lib.hid hyx
     ·have hn : ¬ x ≤ y := by simpa using hyx
      clear hx hy hyx
      go_wp2_with (go_at_call 71; refine (within_b _ _ _ _).mono ?_; rintro e w' ⟨rfl, rfl⟩)
      go_round
      case rel => exact ⟨k + 1, by omega, by go_num, by rw [range_all_succ, Hall.out, getD_of Hx.out, getD_of Hy.out, Hb.out]; simp; omega⟩
      case measure => simp [intOf]; omega
     ·have hn : x ≤ y := by simpa using hyx
      clear hx hy hyx
      go_wp2_with (go_at_call 71; refine (within_b _ _ _ _).mono ?_; rintro e w' ⟨rfl, rfl⟩)
      go_ret
      exact ⟨ret_false (range_all_stop hlt (by rw [getD_of Hx.out, getD_of Hy.out, Hb.out]; simp; omega)), rfl⟩
  ·obtain rfl : k = xs.length := by omega
   go_wp2
   go_ret
   exact ⟨ret_true Hall.out, rfl⟩
def idsB (ids : List Int) (nodes : Int) : Bool := ids.isEmpty || ((ids.length : Int) == nodes && risingB 1 999999 (ids.mergeSort fun x y => decide (x ≤ y)))
theorem below_of_grown {w w1 w2 : World} {v : Value} {xs : List Int} (h : Below w.heap.size w w1) (ho : Own w1 w.heap.size v xs) (hg : w1.grownBy w2 v.ownBlock) : Below w.heap.size w w2 :=
 h.grown hg h.size (fun k hk => (World.ownsRow.lt ho k hk).1)
set_option maxHeartbeats 400000 in
theorem idsOk_any (v : Value) (ids : List Int) (nodes : Int) (w : World) (h : IntS w v ids) (hl : ids.length ≤ 17592186044416) :
  Calls Tryz.prog 130 #[v, .int .i64 nodes] w fun e w' => e = .returned (.bool (idsB ids nodes)) ∧ Below w.heap.size w w' := by
 have H := Lib.hid h
 obtain ⟨A, c, rfl, hlc, hm, hA⟩ := h
 clear hA
 unfold maxLen at hm
 by_cases h0 : ids.length = 0
 ·obtain rfl : ids = [] := List.eq_nil_of_length_eq_zero h0
  go_enter Tryz.func130, Tryz.ntmps130
  go_wp2
  go_ret
  exact ⟨rfl, Below.refl _ _⟩
 ·have h0' : (((ids.length : Nat) : Int) == 0) = false := by simp; intro h; simp [h] at h0
  have hemp : ids.isEmpty = false := by cases ids <;> simp_all
  have Hr := Lib.hid (show idsB ids nodes = ((ids.length : Int) == nodes && risingB 1 999999 (ids.mergeSort fun x y => decide (x ≤ y))) by simp [idsB, hemp])
  clear hemp h0
  cases hn : ((ids.length : Int) == nodes)
  all_goals
   have Hn := Lib.hid hn
   go_enter Tryz.func130, Tryz.ntmps130
   go_wp2_with fail
   refine (clone_any _ ids _ H.out hl).mono ?_
   rintro e w1 ⟨u, rfl, ho, hb⟩
   have Ho := Lib.hid ho
   have Hb := Lib.hid hb
   clear ho hb
   go_wp2_with fail
   refine (sort_any _ ids _ _ Ho.out hl).mono ?_
   rintro e w2 ⟨rfl, ho2, hg⟩
   have Ho2 := Lib.hid ho2
   have Hb2 := Lib.hid (below_of_grown Hb.out Ho.out hg)
   clear ho2 hg
   go_wp2_with fail
  ·go_ret
   exact ⟨ret_false (by rw [Hr.out, Hn.out]; rfl), Hb2.out⟩
  ·refine (increasing_any _ _ _ _ _ Ho2.out.ints).mono ?_
   rintro e w3 ⟨rfl, rfl⟩
   go_wp2
   go_ret
   exact ⟨ret_bool (by rw [Hr.out, Hn.out]; rfl), Hb2.out⟩
def inputsB (inputs : List Int) (nodes : Int) : Bool := (inputs.length : Int) == nodes && inputs.all (inB 0 9)
theorem inputsOk_any (v : Value) (xs : List Int) (nodes : Int) (w : World) (h : IntS w v xs) :
  Calls Tryz.prog 131 #[v, .int .i64 nodes] w fun e w' => e = .returned (.bool (inputsB xs nodes)) ∧ Below w.heap.size w w' := by
 have H := Lib.hid h
 obtain ⟨A, c, rfl, hlc, hm, hA⟩ := h
 clear hA
 unfold maxLen at hm
 unfold inputsB
 cases hn : ((xs.length : Int) == nodes)
 all_goals
  go_enter Tryz.func131, Tryz.ntmps131
  go_wp2_with fail
 ·go_ret
  exact ⟨rfl, Below.refl _ _⟩
 ·refine (allWithin_any _ xs _ _ _ H.out).mono ?_
  rintro e w1 ⟨rfl, hb⟩
  have Hb := Lib.hid hb
  clear hb
  go_wp2
  go_ret
  exact ⟨rfl, Hb.out⟩
theorem hasNode_any (ve vi vn : Value) (ess : List (List (Int × Int))) (v : Int) (w : World) (h : EndSS w ve ess) :
  Calls Tryz.prog 108 #[.agg #[ve, vi, vn], .int .i64 v] w fun e w' => e = .returned (.bool (inB 0 ((ess.length : Int) - 1) v)) ∧ Below w.heap.size w w' := by
 obtain ⟨A, c, rfl, hlc, hm, hA⟩ := h
 clear hA
 unfold maxLen at hm
 go_enter Tryz.func108, Tryz.ntmps108
 go_wp2_with (go_at_call 71; refine (within_b _ _ _ _).mono ?_; rintro e w' ⟨rfl, rfl⟩)
 go_ret
 exact ⟨rfl, below_alloc _ _⟩
def hasPortB (ess : List (List (Int × Int))) (v i : Int) : Bool := inB 0 ((ess.length : Int) - 1) v && inB 0 (((ess.getD v.toNat []).length : Int) - 1) i
set_option maxHeartbeats 400000 in
theorem hasPort_any (ve vi vn : Value) (ess : List (List (Int × Int))) (v i : Int) (w : World) (h : EndSS w ve ess) :
  Calls Tryz.prog 57 #[.agg #[ve, vi, vn], .int .i64 v, .int .i64 i] w fun e w' => e = .returned (.bool (hasPortB ess v i)) ∧ Below w.heap.size w w' := by
 have hb0 : Below w.heap.size w (w.alloc (.cells #[ve, vi, vn] 27)) := below_alloc _ _
 have H := Lib.hid (h.keep hb0)
 obtain ⟨A, c, rfl, hlc, hm, hA⟩ := h
 unfold maxLen at hm
 have Hb0 := Lib.hid hb0
 clear hb0
 unfold hasPortB
 cases hn : inB 0 ((ess.length : Int) - 1) v
 ·clear hA
  go_enter Tryz.func57, Tryz.ntmps57
  go_wp2_with fail
  refine (hasNode_any _ _ _ ess v _ H.out).mono ?_
  rintro e w1 ⟨rfl, hb1⟩
  have Hb1 := Lib.hid (Hb0.out.trans (hb1.mono (by simp)))
  clear hb1
  go_wp2
  go_ret
  exact ⟨rfl, Hb1.out⟩
 ·obtain ⟨hv0, hv1⟩ := inB_iff.1 hn
  obtain ⟨k, rfl⟩ := Int.eq_ofNat_of_zero_le hv0
  have hk : k < ess.length := by omega
  obtain ⟨es, hes⟩ := getx ess k hk
  obtain ⟨b, off, u, rfl, hc1, hr⟩ := hA k es hes
  obtain ⟨A1, z1, rfl, hz1, hz2, _⟩ := hr
  unfold maxLen at hz2
  have hg := Lib.hid (show (ess.getD ((k : Int)).toNat []) = es by rw [Int.toNat_natCast, getD_of hes])
  rw [hg.out]
  have hc2 := bc Hb0.out hc1
  clear hA hes hc1
  go_enter Tryz.func57, Tryz.ntmps57
  go_wp2_with fail
  refine (hasNode_any _ _ _ ess k _ H.out).mono ?_
  rintro e w1 ⟨rfl, hb1⟩
  have hc3 := bc hb1 hc2
  have hc4 : w1.cell? ⟨w.heap.size, 0, none⟩ = some (.slice (some ⟨b, off, none⟩) ess.length c) := bc hb1 (by simp)
  have Hb1 := Lib.hid (Hb0.out.trans (hb1.mono (by simp)))
  clear hb1 hc2
  go_wp2_with (go_at_call 71; refine (within_b _ _ _ _).mono ?_; rintro e w' ⟨rfl, rfl⟩)
  go_ret
  exact ⟨rfl, Hb1.out⟩
def endOkB (ess : List (List (Int × Int))) (v i : Nat) (e : Int × Int) : Bool := hasPortB ess e.1 e.2 && eqE ((ess.getD e.1.toNat []).getD e.2.toNat (0, 0)) ((v : Int), (i : Int))
def rowOkB (ess : List (List (Int × Int))) (v : Nat) (es : List (Int × Int)) : Bool := decide (es.length ≤ 6) && (List.range es.length).all fun i => endOkB ess v i (es.getD i (0, 0))
def netOk (n : Net) : Bool := inB 1 40 n.ends.length && idsB n.ids n.ends.length && inputsB n.inputs n.ends.length && (List.range n.ends.length).all fun v => rowOkB n.ends v (n.ends.getD v [])
set_option maxHeartbeats 1000000 in
theorem isNetwork_any (ve vi vn : Value) (n : Net) (w : World) (h : NetIn w ve vi vn n) (hl : n.ids.length ≤ 17592186044416) :
  Calls Tryz.prog 53 #[.agg #[ve, vi, vn]] w fun e w' => e = .returned (.bool (netOk n)) ∧ Below w.heap.size w w' := by
 have hb0 : Below w.heap.size w (w.alloc (.cells #[ve, vi, vn] 27)) := below_alloc _ _
 have H := Lib.hid (h.keep hb0)
 obtain ⟨h1, h2, h3⟩ := h
 obtain ⟨A, c, rfl, hlc, hm, hA⟩ := h1
 obtain ⟨A2, c2, rfl, _, hm2, _⟩ := h2
 obtain ⟨A3, c3, rfl, _, hm3, _⟩ := h3
 unfold maxLen at hm hm2 hm3
 have Hb0 := Lib.hid hb0
 have HA := Lib.hid hA
 clear hb0 hA
 cases t1 : inB 1 40 (n.ends.length : Int)
 ·have hr := Lib.hid (show netOk n = false by simp [netOk, t1])
  go_enter Tryz.func53, Tryz.ntmps53
  go_wp2_with (go_at_call 71; refine (within_b _ _ _ _).mono ?_; rintro e w' ⟨rfl, rfl⟩)
  go_ret
  exact ⟨ret_false hr.out, Hb0.out⟩
 ·cases t2 : idsB n.ids n.ends.length
  ·have hr := Lib.hid (show netOk n = false by simp [netOk, t2])
   go_enter Tryz.func53, Tryz.ntmps53
   go_wp2_with (go_at_call 71; refine (within_b _ _ _ _).mono ?_; rintro e w' ⟨rfl, rfl⟩)
   refine (idsOk_any _ n.ids _ _ H.out.2.1 hl).mono ?_
   rintro e w1 ⟨rfl, hb1⟩
   have Hb1 := Lib.hid (Hb0.out.trans (hb1.mono (by simp)))
   clear hb1
   go_wp2
   go_ret
   exact ⟨ret_false hr.out, Hb1.out⟩
  ·cases t3 : inputsB n.inputs n.ends.length
   ·have hr := Lib.hid (show netOk n = false by simp [netOk, t3])
    go_enter Tryz.func53, Tryz.ntmps53
    go_wp2_with (go_at_call 71; refine (within_b _ _ _ _).mono ?_; rintro e w' ⟨rfl, rfl⟩)
    refine (idsOk_any _ n.ids _ _ H.out.2.1 hl).mono ?_
    rintro e w1 ⟨rfl, hb1⟩
    have Hb1 := Lib.hid (Hb0.out.trans (hb1.mono (by simp)))
    have H1 := Lib.hid (H.out.keep hb1)
    have d0 : w1.cell? ⟨w.heap.size, 0, none⟩ = some (.slice A n.ends.length c) := bc hb1 (by simp)
    have d2 : w1.cell? ⟨w.heap.size, 2, none⟩ = some (.slice A3 n.inputs.length c3) := bc hb1 (by simp)
    clear hb1
    go_wp2_with fail
    refine (inputsOk_any _ n.inputs _ _ H1.out.2.2).mono ?_
    rintro e w2 ⟨rfl, hb2⟩
    have Hb2 := Lib.hid (Hb1.out.trans (hb2.mono Hb1.out.size))
    clear hb2
    go_wp2
    go_ret
    exact ⟨ret_false hr.out, Hb2.out⟩
   ·have hr := Lib.hid (show netOk n = (List.range n.ends.length).all fun v => rowOkB n.ends v (n.ends.getD v []) by simp [netOk, t1, t2, t3])
    go_enter Tryz.func53, Tryz.ntmps53
    go_wp2_with (go_at_call 71; refine (within_b _ _ _ _).mono ?_; rintro e w' ⟨rfl, rfl⟩)
    refine (idsOk_any _ n.ids _ _ H.out.2.1 hl).mono ?_
    rintro e w1 ⟨rfl, hb1⟩
    have Hb1 := Lib.hid (Hb0.out.trans (hb1.mono (by simp)))
    have H1 := Lib.hid (H.out.keep hb1)
    have d0 : w1.cell? ⟨w.heap.size, 0, none⟩ = some (.slice A n.ends.length c) := bc hb1 (by simp)
    have d1 : w1.cell? ⟨w.heap.size, 1, none⟩ = some (.slice A2 n.ids.length c2) := bc hb1 (by simp)
    have d2 : w1.cell? ⟨w.heap.size, 2, none⟩ = some (.slice A3 n.inputs.length c3) := bc hb1 (by simp)
    clear hb1
    go_wp2_with fail
    refine (inputsOk_any _ n.inputs _ _ H1.out.2.2).mono ?_
    rintro e w2 ⟨rfl, hb2⟩
    have Hb2 := Lib.hid (Hb1.out.trans (hb2.mono Hb1.out.size))
    have H2 := Lib.hid (H1.out.keep hb2)
    have e0 := bc hb2 d0
    have e1 := bc hb2 d1
    have e2 := bc hb2 d2
    have hsz : w.heap.size < w2.heap.size := World.block_lt_of_cell? w2 _ e0
    have E := Lib.hid (And.intro e0 (And.intro e1 e2))
    clear hb2 d0 d1 d2 H H1
    go_wp2
    go_loopw [33] (fun i wr => ∃ k : Nat, k ≤ n.ends.length ∧ i = .int .i64 k ∧ ((List.range k).all fun v => rowOkB n.ends v (n.ends.getD v [])) = true ∧ Below w2.heap.size w2 wr) (fun i _ => n.ends.length - (intOf i).toNat)
    case atStart => exact ⟨0, Nat.zero_le _, rfl, rfl, Below.refl _ _⟩
    case round =>
     obtain ⟨k, hk, rfl, hall, hbr⟩ := hrel
     have Hall := Lib.hid hall
     have Hbr := Lib.hid hbr
     clear hall hbr
     by_cases hlt : k < n.ends.length
     ·obtain ⟨es, hes⟩ := getx n.ends k hlt
      obtain ⟨b, off, u, rfl, hc1, hrow⟩ := HA.out k es hes
      have hbA := Hb2.out.trans (Hbr.out.mono Hb2.out.size)
      have hc2 := bc hbA hc1
      have Hrow := Lib.hid (hrow.keep hbA)
      obtain ⟨A1, z1, rfl, hz1, hz2, hA1⟩ := hrow
      have HA1 := Lib.hid hA1
      unfold maxLen at hz2
      have Hes := Lib.hid hes
      have HbA := Lib.hid hbA
      clear hes hbA hc1 hA1
      by_cases h6 : es.length ≤ 6
      ·go_wp2
       obtain ⟨wo, rfl⟩ : ∃ wo : World, wo = wr := ⟨_, rfl⟩
       go_loopw [43] (fun i wq => ∃ j : Nat, j ≤ es.length ∧ i = .int .i64 j ∧ ((List.range j).all fun i => endOkB n.ends k i (es.getD i (0, 0))) = true ∧ Below wo.heap.size wo wq) (fun i _ => es.length - (intOf i).toNat)
       case atStart => exact ⟨0, Nat.zero_le _, rfl, rfl, Below.refl _ _⟩
       case round =>
        obtain ⟨j, hj, rfl, hall2, hbq⟩ := hrel
        have Hall2 := Lib.hid hall2
        have Hbq := Lib.hid hbq
        have hbB := HbA.out.trans (hbq.mono HbA.out.size)
        have hbC := Hbr.out.trans (hbq.mono Hbr.out.size)
        clear hall2 hbq
        by_cases hlt2 : j < es.length
        ·obtain ⟨⟨x1, x2⟩, he⟩ := getx es j hlt2
         obtain ⟨b1, off1, rfl, hd1, hd2⟩ := HA1.out j _ he
         have q1 := bc hbB hd1
         have q2 := bc hbB hd2
         obtain ⟨n0, n1, n2⟩ := E.out
         have m0 := bc hbC n0
         have m1 := bc hbC n1
         have m2 := bc hbC n2
         have hszq : w.heap.size < wr.heap.size := World.block_lt_of_cell? wr _ m0
         have He := Lib.hid he
         have HbB := Lib.hid hbB
         have HN := Lib.hid (H2.out.1.keep hbC)
         clear he hbB hbC n0 n1 n2 hd1 hd2 hc2
         cases hp : hasPortB n.ends x1 x2
         ·have Hp := Lib.hid hp
          go_wp2
          obtain ⟨w0, hw0⟩ : ∃ w0, (wr.alloc (Obj.cells #[Value.int IntKind.i64 x1, Value.int IntKind.i64 x2] 83)) = w0 := ⟨_, rfl⟩
          rw [hw0]
          have hbw : Below wr.heap.size wr w0 := by rw [← hw0]; exact below_alloc _ _
          have hi0 : ∀ W, Since w0 W → W.cell? ⟨w.heap.size, 0, none⟩ = some (.slice (some ⟨b, off, none⟩) n.ends.length c) := fun W hW => bc hW (bc hbw m0)
          have hi1 : ∀ W, Since w0 W → W.cell? ⟨w.heap.size, 1, none⟩ = some (.slice A2 n.ids.length c2) := fun W hW => bc hW (bc hbw m1)
          have hi2 : ∀ W, Since w0 W → W.cell? ⟨w.heap.size, 2, none⟩ = some (.slice A3 n.inputs.length c3) := fun W hW => bc hW (bc hbw m2)
          have hi3 : ∀ W, Since w0 W → W.cell? ⟨wr.heap.size, 0, none⟩ = some (.int .i64 x1) := fun W hW => bc hW (by rw [← hw0]; simp)
          have hi4 : ∀ W, Since w0 W → W.cell? ⟨wr.heap.size, 1, none⟩ = some (.int .i64 x2) := fun W hW => bc hW (by rw [← hw0]; simp)
          have HN0 := Lib.hid (HN.out.keep hbw)
          have Hbw := Lib.hid hbw
          clear hw0 hbw m0 m1 m2
          refine wp_region_flow 23 (Since w0) (by kernel_rfl) (by kernel_rfl) (by simp) (Since.drew w0) ?_
          simp only [List.take_succ_cons, List.take_zero, List.drop_succ_cons, List.drop_zero]
          iterate 5 (refine flow_val (v := ?_) rfl ?_ ?_; rotate_left; (intro W hW; go_simp; with_reducible rfl); simp only [zA])
          refine flow_op (.bool false) rfl (fun W hW => ?_) ?_
          ·unfold Gives
           go_simp
           refine (hasPort_any _ _ _ n.ends x1 x2 W (HN0.out.keep hW)).mono ?_
           rintro e W' ⟨rfl, hb3⟩
           exact ⟨by rw [Hp.out], hW.trans hb3⟩
          simp only [zA]
          iterate 2 (refine flow_val (v := ?_) rfl ?_ ?_; rotate_left; (intro W hW; go_simp; with_reducible rfl); simp only [zA])
          iterate 14 (refine flow_skip rfl ?_; simp only [zA])
          iterate 1 (refine flow_val (v := ?_) rfl ?_ ?_; rotate_left; (intro W hW; go_simp; with_reducible rfl); simp only [zA])
          intro W hW
          have HW := Lib.hid hW
          clear hW
          go_wp2
          go_ret
          exact ⟨ret_false (by rw [hr.out]; refine range_all_stop hlt ?_; rw [getD_of Hes.out]; simp only [rowOkB]; rw [Bool.and_eq_false_iff]; exact .inr (range_all_stop hlt2 (by rw [getD_of He.out]; simp [endOkB, Hp.out]))), (HbB.out.trans (Hbw.out.mono HbB.out.size)).trans ((show Below w0.heap.size w0 W from HW.out).mono (by have := HbB.out.size; have := Hbw.out.size; omega))⟩
         ·have Hp := Lib.hid hp
          have hp2 := hp
          unfold hasPortB at hp2
          rw [Bool.and_eq_true] at hp2
          obtain ⟨p1, p2⟩ := hp2
          obtain ⟨p3, p4⟩ := inB_iff.1 p1
          obtain ⟨k1, rfl⟩ := Int.eq_ofNat_of_zero_le p3
          have hk1 : k1 < n.ends.length := by omega
          obtain ⟨es1, hes1⟩ := getx n.ends k1 hk1
          rw [Int.toNat_natCast, getD_of hes1] at p2
          obtain ⟨p5, p6⟩ := inB_iff.1 p2
          obtain ⟨i1, rfl⟩ := Int.eq_ofNat_of_zero_le p5
          have hi1 : i1 < es1.length := by omega
          obtain ⟨⟨y1, y2⟩, hy⟩ := getx es1 i1 hi1
          obtain ⟨b2, off2, u', hA', hc3, hrow'⟩ := HA.out k1 es1 hes1
          injection hA' with hA'
          injection hA' with q3 q4
          subst q3 q4
          obtain ⟨A1', z1', rfl, hz1', hz2', hA1'⟩ := hrow'
          obtain ⟨b3, off3, rfl, hc5, hc6⟩ := hA1' i1 _ hy
          unfold maxLen at hz2'
          have Hy := Lib.hid hy
          have Hes1 := Lib.hid hes1
          have g3 := bc HbB.out hc3
          have g5 := bc HbB.out hc5
          have g6 := bc HbB.out hc6
          clear hes1 hy hc3 hc5 hc6 hA1' p1 p2 hp
          go_wp2
          obtain ⟨w0, hw0⟩ : ∃ w0, (wr.alloc (Obj.cells #[Value.int IntKind.i64 (k1 : Int), Value.int IntKind.i64 (i1 : Int)] 83)) = w0 := ⟨_, rfl⟩
          rw [hw0]
          have hbw : Below wr.heap.size wr w0 := by rw [← hw0]; exact below_alloc _ _
          have i0 : ∀ W, Since w0 W → W.cell? ⟨w.heap.size, 0, none⟩ = some (.slice (some ⟨b, off, none⟩) n.ends.length c) := fun W hW => bc hW (bc hbw m0)
          have i1' : ∀ W, Since w0 W → W.cell? ⟨w.heap.size, 1, none⟩ = some (.slice A2 n.ids.length c2) := fun W hW => bc hW (bc hbw m1)
          have i2 : ∀ W, Since w0 W → W.cell? ⟨w.heap.size, 2, none⟩ = some (.slice A3 n.inputs.length c3) := fun W hW => bc hW (bc hbw m2)
          have i3 : ∀ W, Since w0 W → W.cell? ⟨wr.heap.size, 0, none⟩ = some (.int .i64 (k1 : Int)) := fun W hW => bc hW (by rw [← hw0]; simp)
          have i4 : ∀ W, Since w0 W → W.cell? ⟨wr.heap.size, 1, none⟩ = some (.int .i64 (i1 : Int)) := fun W hW => bc hW (by rw [← hw0]; simp)
          have i5 : ∀ W, Since w0 W → W.cell? ⟨b, off + k1, none⟩ = some (.slice (some ⟨b3, off3, none⟩) es1.length z1') := fun W hW => bc hW (bc hbw g3)
          have i6 : ∀ W, Since w0 W → W.cell? ⟨b3, off3 + i1 * 2, none⟩ = some (.int .i64 y1) := fun W hW => bc hW (bc hbw g5)
          have i7 : ∀ W, Since w0 W → W.cell? ⟨b3, off3 + i1 * 2 + 1, none⟩ = some (.int .i64 y2) := fun W hW => bc hW (bc hbw g6)
          have HN0 := Lib.hid (HN.out.keep hbw)
          have Hbw := Lib.hid hbw
          clear hw0 hbw m0 m1 m2 g3 g5 g6
          refine wp_region_flow 23 (Since w0) (by kernel_rfl) (by kernel_rfl) (by simp) (Since.drew w0) ?_
          simp only [List.take_succ_cons, List.take_zero, List.drop_succ_cons, List.drop_zero]
          iterate 5 (refine flow_val (v := ?_) rfl ?_ ?_; rotate_left; (intro W hW; go_simp; with_reducible rfl); simp only [zA])
          refine flow_op (.bool true) rfl (fun W hW => ?_) ?_
          ·unfold Gives
           go_simp
           refine (hasPort_any _ _ _ n.ends k1 i1 W (HN0.out.keep hW)).mono ?_
           rintro e W' ⟨rfl, hb3⟩
           exact ⟨by rw [Hp.out], hW.trans hb3⟩
          simp only [zA]
          iterate 15 (refine flow_val (v := ?_) rfl ?_ ?_; rotate_left; (intro W hW; go_simp; with_reducible rfl); simp only [zA])
          refine flow_op (.bool (!eqE (y1, y2) ((k : Int), (j : Int)))) rfl (fun W hW => ?_) ?_
          ·unfold Gives
           go_simp
           by_cases f1 : y1 = (k : Int)
           ·by_cases f2 : y2 = (j : Int)
            ·simp [f1, f2, eqE, hW]
            ·simp [f1, f2, eqE, hW]
           ·simp [f1, eqE, hW]
          simp only [zA]
          cases hq : eqE (y1, y2) ((k : Int), (j : Int))
          all_goals
           have Hq := Lib.hid hq
           clear hq
           iterate 1 (refine flow_val (v := ?_) rfl ?_ ?_; rotate_left; (intro W hW; go_simp; with_reducible rfl); simp only [zA])
           intro W hW
           have HW := Lib.hid hW
           have HbW := Lib.hid ((HbB.out.trans (Hbw.out.mono HbB.out.size)).trans ((show Below w0.heap.size w0 W from hW).mono (by have := HbB.out.size; have := Hbw.out.size; omega)))
           have HbW2 := Lib.hid ((Hbq.out.trans (Hbw.out.mono Hbq.out.size)).trans ((show Below w0.heap.size w0 W from hW).mono (by have := Hbq.out.size; have := Hbw.out.size; omega)))
           clear hW
           go_wp2
          ·go_ret
           exact ⟨ret_false (by rw [hr.out]; refine range_all_stop hlt ?_; rw [getD_of Hes.out]; simp only [rowOkB]; rw [Bool.and_eq_false_iff]; exact .inr (range_all_stop hlt2 (by rw [getD_of He.out]; simp [endOkB, Hp.out, Hes1.out, Hy.out, Hq.out]))), HbW.out⟩
          ·go_roundw
           case rel => exact ⟨j + 1, by omega, by go_num, by rw [range_all_succ, Hall2.out, getD_of He.out]; simp [endOkB, Hp.out, Hes1.out, Hy.out, Hq.out], HbW2.out⟩
           case measure => simp [intOf]; omega
        ·obtain rfl : j = es.length := by omega
         have Hbq2 := Lib.hid hbC
         clear hbB hbC
         go_wp2
         go_roundw
         case rel => exact ⟨k + 1, by omega, by go_num, by rw [range_all_succ, Hall.out, getD_of Hes.out, Bool.true_and]; unfold rowOkB; rw [Hall2.out]; simp [h6], Hbq2.out⟩
         case measure => simp [intOf]; omega
      ·go_wp2
       go_ret
       exact ⟨ret_false (by rw [hr.out]; exact range_all_stop hlt (by rw [getD_of Hes.out]; simp [rowOkB, h6])), HbA.out⟩
     ·obtain rfl : k = n.ends.length := by omega
      go_wp2
      go_ret
      exact ⟨ret_true (by rw [hr.out]; exact Hall.out), Hb2.out.trans (Hbr.out.mono Hb2.out.size)⟩
end Go.Proofs.YtgmdpppljkmabaaGreat
namespace Go.Proofs.YtgmdpppljkmabaaGreat
open Go.RowKit
theorem es_info : (Tryz.prog.info? 81).map (fun i => (i.zero, i.size, i.bytes)) = some (some (.slice none 0 0), 1, 24) := by kernel_rfl
theorem end_info : (Tryz.prog.info? 83).map (fun i => (i.zero, i.size, i.bytes)) = some (some (.agg #[.int .i64 0, .int .i64 0]), 2, 16) := by kernel_rfl
theorem made_rep (z : Value) (n : Nat) : madeCells #[z] (n * 1) = Array.replicate n z := by
 apply Array.ext'
 rw [toList_madeCells_one]; simp
theorem run_mk_rows (n : Nat) (hn : n ≤ 1000000) (W : World) : (Instr.makeSlice 24 (.int .i64 (n : Int)) (.int .i64 (n : Int))).run Tryz.prog W = .ok (.slice (some ⟨W.heap.size, 0, none⟩) n n) (W.alloc (.cells (Array.replicate n (Value.slice none 0 0)) 81)) := by
 obtain ⟨i0, hi, hz0, hz1, hz2⟩ := info_parts es_info
 have hr := run_make (P := Tryz.prog) W 24 81 i0 (.slice none 0 0) Tryz.underlying24 hi hz0 .i64 .i64 n n (by omega) (Int.le_refl _) (by rw [hz2]; omega) (by omega)
 rw [hz1] at hr
 simp only [Int.toNat_natCast] at hr
 rw [show (Value.slice none 0 0).cells = #[Value.slice none 0 0] from rfl, made_rep] at hr
 exact hr
theorem run_mk_ints (n : Nat) (hn : n ≤ 1000000) (W : World) : (Instr.makeSlice 25 (.int .i64 (n : Int)) (.int .i64 (n : Int))).run Tryz.prog W = .ok (.slice (some ⟨W.heap.size, 0, none⟩) n n) (W.alloc (.cells (Array.replicate n (Value.int .i64 0)) 3)) := by
 obtain ⟨i0, hi, hz0, hz1, hz2⟩ := info_parts int_info
 have hr := run_make (P := Tryz.prog) W 25 3 i0 (.int .i64 0) Tryz.underlying25 hi hz0 .i64 .i64 n n (by omega) (Int.le_refl _) (by rw [hz2]; omega) (by omega)
 rw [hz1] at hr
 simp only [Int.toNat_natCast] at hr
 rw [show (Value.int IntKind.i64 0).cells = #[Value.int .i64 0] from rfl, made_rep] at hr
 exact hr
def emptyNet (n : Nat) : Net := { ends := List.replicate n [], ids := [], inputs := List.replicate n 0 }
theorem ownE_nil (w : World) (base : Nat) : OwnE w base (.slice none 0 0) [] [] := ⟨World.ownsRow_nil w base _ _, rfl⟩
theorem ownI_nil (w : World) (base : Nat) : OwnI w base (.slice none 0 0) [] [] := ⟨own_nil w base, rfl⟩
theorem own_made (w : World) (n : Nat) (hn : n ≤ 1000000) : OwnI (w.alloc (.cells (Array.replicate n (Value.int .i64 0)) 3)) w.heap.size (.slice (some ⟨w.heap.size, 0, none⟩) n n) (List.replicate n 0) [w.heap.size] := by
 have := own_lit w (List.replicate n 0) (by simp [maxLen]; omega)
 simp only [List.length_replicate, List.map_replicate, List.toArray_replicate] at this
 exact ⟨this, rfl⟩
theorem ownEE_made (w : World) (n : Nat) (hn : n ≤ 1000000) : OwnEE (w.alloc (.cells (Array.replicate n (Value.slice none 0 0)) 81)) w.heap.size (.slice (some ⟨w.heap.size, 0, none⟩) n n) (List.replicate n []) [w.heap.size] :=
 by have := OwnRows.made (R := OwnE) (e := 81) n (by simp [maxLen]; omega) ownE_nil w; rw [List.toArray_replicate] at this; exact this
theorem ownNet_two (w : World) (B : Obj) (n : Nat) (hn : n ≤ 1000000) :
  OwnNet (((w.alloc B).alloc (.cells (Array.replicate n (Value.slice none 0 0)) 81)).alloc (.cells (Array.replicate n (Value.int .i64 0)) 3)) w.heap.size
   (.slice (some ⟨w.heap.size + 1, 0, none⟩) n n) (.slice none 0 0) (.slice (some ⟨w.heap.size + 1 + 1, 0, none⟩) n n) (emptyNet n) [w.heap.size + 1, w.heap.size + 1 + 1] := by
 have h1 := ownEE_made (w.alloc B) n hn
 have h2 := own_made ((w.alloc B).alloc (.cells (Array.replicate n (Value.slice none 0 0)) 81)) n hn
 simp only [World.size_alloc] at h1 h2
 exact ⟨[w.heap.size + 1], [], [w.heap.size + 1 + 1], lawEE.mono (lawEE.keep h1 (below_alloc _ _)) (by omega), ownI_nil _ _, lawI.mono h2 (by omega), rfl, by simp⟩
theorem ownNet_two' (w : World) (B : Obj) (n : Nat) (hn : n ≤ 1000000) :
  OwnNet (((w.alloc B).alloc (.cells (Array.replicate n (Value.int .i64 0)) 3)).alloc (.cells (Array.replicate n (Value.slice none 0 0)) 81)) w.heap.size
   (.slice (some ⟨w.heap.size + 1 + 1, 0, none⟩) n n) (.slice none 0 0) (.slice (some ⟨w.heap.size + 1, 0, none⟩) n n) (emptyNet n) [w.heap.size + 1 + 1, w.heap.size + 1] := by
 have h1 := own_made (w.alloc B) n hn
 have h2 := ownEE_made ((w.alloc B).alloc (.cells (Array.replicate n (Value.int .i64 0)) 3)) n hn
 simp only [World.size_alloc] at h1 h2
 exact ⟨[w.heap.size + 1 + 1], [], [w.heap.size + 1], lawEE.mono h2 (by omega), ownI_nil _ _, lawI.mono (lawI.keep h1 (below_alloc _ _)) (by omega), rfl, by simp⟩
theorem below3 (w : World) (a b c : Obj) : Below w.heap.size w (((w.alloc a).alloc b).alloc c) := (((Below.refl _ _).alloc (Nat.le_refl _) _).alloc (by simp) _).alloc (by simp; omega) _
theorem OwnNet.drew {w : World} {base : Nat} {ve vi vn : Value} {n : Net} {S : List Nat} (h : OwnNet w base ve vi vn n S) : OwnNet w.drew base ve vi vn n S := h.stable fun _ _ => rfl
def NewNet (w : World) (n : Net) (e : Ending) (w' : World) : Prop := ∃ ve vi vn S, e = .returned (.agg #[ve, vi, vn]) ∧ OwnNet w' w.heap.size ve vi vn n S ∧ Below w.heap.size w w'
theorem OwnNet.storeRow {w : World} {base g c n : Nat} {vi vn : Value} {N : Net} {S : List Nat} (h : OwnNet w base (.slice (some ⟨g, 0, none⟩) n c) vi vn N S) (k : Nat) {u : Value} {x : List (Int × Int)} {T : List Nat} (hR : OwnE w base u x T) (hd : ∀ j ∈ T, j ∉ S) :
  ∃ S', OwnNet (w.setCell ⟨g, k, none⟩ u) base (.slice (some ⟨g, 0, none⟩) n c) vi vn { N with ends := N.ends.set k x } S' ∧ ∀ j ∈ S', j ∈ S ∨ j ∈ T := by
 obtain ⟨S1, S2, S3, h1, h2, h3, h4, h5⟩ := h
 rw [h4, List.nodup_append] at h5
 obtain ⟨n1, n2, n3⟩ := h5
 have hg : g ∈ S1 := by
  obtain ⟨vs, Ss, _, _, _, e, _⟩ := h1
  rw [e]; simp [Value.ownBlock]
 obtain ⟨S1', o1, hs⟩ := OwnRows.store lawE h1 k hR (fun j hj hS => hd j hj (by rw [h4]; exact List.mem_append_left _ hS))
 have ho : Only [g] w (w.setCell ⟨g, k, none⟩ u) := (Only.refl _ _).setCell (.inl (by simp)) _
 have d : ∀ j ∈ S2 ++ S3, j ∉ [g] := fun j hj hg' => by simp at hg'; subst hg'; exact n3 j hg j hj rfl
 refine ⟨S1' ++ (S2 ++ S3), ⟨S1', S2, S3, o1, lawI.only h2 ho (fun j hj => d j (List.mem_append_left _ hj)), lawI.only h3 ho (fun j hj => d j (List.mem_append_right _ hj)), rfl, ?_⟩, ?_⟩
 ·rw [List.nodup_append]
  refine ⟨lawEE.nodup o1, n2, fun a ha b hb hab => ?_⟩
  subst hab
  rcases hs a ha with h | h
  ·exact n3 a h a hb rfl
  ·exact hd a h (by rw [h4]; exact List.mem_append_right _ hb)
 ·intro j hj
  rcases List.mem_append.1 hj with hj | hj
  ·rcases hs j hj with h | h
   ·exact .inl (by rw [h4]; exact List.mem_append_left _ h)
   ·exact .inr h
  ·exact .inl (by rw [h4]; exact List.mem_append_right _ hj)
theorem OwnNet.rowCell {w : World} {base g c n : Nat} {vi vn : Value} {N : Net} {S : List Nat} (h : OwnNet w base (.slice (some ⟨g, 0, none⟩) n c) vi vn N S) {k : Nat} {x : List (Int × Int)} (hx : N.ends[k]? = some x) :
  ∃ u T, w.cell? ⟨g, k, none⟩ = some u ∧ w.frozen? ⟨g, k, none⟩ = false ∧ OwnE w base u x T ∧ base ≤ g ∧ g < w.heap.size ∧ g ∈ S := by
 obtain ⟨S1, S2, S3, h1, _, _, h4, _⟩ := h
 obtain ⟨u, T, a, b, c, _, _, d⟩ := OwnRows.at_ h1 hx
 exact ⟨u, T, a, b, c, (lawEE.range h1 g d).1, (lawEE.range h1 g d).2, by rw [h4]; exact List.mem_append_left _ d⟩
def Box3 (w : World) (b : Nat) (x y z : Value) : Prop := ∃ r, w.heap[b]? = some (.cells #[x, y, z] r)
theorem Box3.cells {w : World} {b : Nat} {x y z : Value} (h : Box3 w b x y z) : w.cell? ⟨b, 0, none⟩ = some x ∧ w.cell? ⟨b, 1, none⟩ = some y ∧ w.cell? ⟨b, 2, none⟩ = some z ∧ w.frozen? ⟨b, 0, none⟩ = false ∧ w.frozen? ⟨b, 1, none⟩ = false ∧ w.frozen? ⟨b, 2, none⟩ = false := by
 obtain ⟨r, h⟩ := h
 simp [World.cell?, World.frozen?, h]
theorem Box3.lt {w : World} {b : Nat} {x y z : Value} (h : Box3 w b x y z) : b < w.heap.size := by
 obtain ⟨r, h⟩ := h
 exact (Array.getElem?_eq_some_iff.1 h).1
theorem Box3.below {w w' : World} {B b : Nat} {x y z : Value} (h : Box3 w b x y z) (hb : Below B w w') (hB : b < B) : Box3 w' b x y z := by
 obtain ⟨r, h⟩ := h
 exact ⟨r, (hb.block b hB).trans h⟩
theorem Box3.set {w : World} {b : Nat} {x y z u : Value} {a : Addr} (h : Box3 w b x y z) (ha : a.block ≠ b) : Box3 (w.setCell a u) b x y z := by
 obtain ⟨r, h⟩ := h
 exact ⟨r, (Below.heap_setCell w a u b (Ne.symm ha)).trans h⟩
theorem Box3.alloc {w : World} {b : Nat} {x y z : Value} (h : Box3 w b x y z) (o : Obj) : Box3 (w.alloc o) b x y z := h.below (below_alloc w o) h.lt
theorem Box3.new (w : World) (x y z : Value) (t : TypeId) : Box3 (w.alloc (.cells #[x, y, z] t)) w.heap.size x y z := ⟨t, by show (w.heap.push _)[w.heap.size]? = _; rw [Array.getElem?_push_size]⟩
def upto (n : Nat) : List Int := (List.range n).map Int.ofNat
theorem upto_len (n : Nat) : (upto n).length = n := by simp [upto]
theorem upto_get {n k : Nat} (h : k < n) : (upto n)[k]? = some (k : Int) := by simp [upto, h]
set_option maxHeartbeats 1000000 in
theorem numbersTo_any (n : Nat) (hn : n ≤ 1000000) (w : World) : Calls Tryz.prog 101 #[.int .i64 n] w fun e w' => ∃ u, e = .returned u ∧ Own w' w.heap.size u (upto n) ∧ Below w.heap.size w w' := by
 go_enter Tryz.func101, Tryz.ntmps101
 go_wp2_with (at_make; refine mk_ints _ rfl _ _ rfl _ _ n rfl rfl rfl rfl (by omega) ?_; intro w1 ho1 hb1 hz1)
 go_loopw [9] (fun i wr => ∃ k : Nat, k ≤ n ∧ i = .int .i64 k ∧ Own wr w.heap.size (.slice (some ⟨w.heap.size, 0, none⟩) n n) ((upto n).take k ++ List.replicate (n - k) 0) ∧ Below w.heap.size w wr) (fun i _ => n - (intOf i).toNat)
 case atStart => exact ⟨0, Nat.zero_le _, rfl, by simpa using ho1, hb1⟩
 case round =>
  obtain ⟨k, hk, rfl, ho, hb⟩ := hrel
  clear ho1 hb1 hz1
  have Ho := Lib.hid ho
  have Hb := Lib.hid hb
  by_cases hlt : k < n
  ·have hf := ho.free k
   obtain ⟨y, hy⟩ := getx ((upto n).take k ++ List.replicate (n - k) 0) k (by simp [upto_len]; omega)
   have hc2 := ho.cell hy
   clear hy ho hb
   go_wp2
   go_roundw
   case rel =>
    refine ⟨k + 1, by omega, by go_num, ?_, Hb.out.setCell (Nat.le_refl _) _⟩
    have := Ho.out.set (k := k) (k : Int)
    have e := set_fill 0 (upto n) k (k : Int) (upto_get hlt)
    rw [upto_len] at e
    rwa [e] at this
   case measure => simp [intOf]; omega
  ·go_wp2
   go_ret
   refine ⟨_, rfl, ?_, Hb.out⟩
   have := Ho.out
   rwa [take_all (upto n) (by rw [upto_len]; exact hlt), show n - k = 0 by omega, List.replicate_zero, List.append_nil] at this
theorem app_int {w : World} {ops : Array Oper} {rest : List Oper} {o : Oper} {a : Act} {Q : Exit → Act → World → Prop} (hgd : o.guard = none) (s x : Operand)
  (ho : o.op = .call { callee := .builtin .append, args := #[s, x], argTypes := #[25, 25] }) {base : Nat} {v : Value} {xs : List Int} (hs : a.eval s = v) (h : Own w base v xs) (b : Nat) (y : Int)
  (hx : a.eval x = .slice (some ⟨b, 0, none⟩) 1 1) (hc : w.cell? ⟨b, 0, none⟩ = some (.int .i64 y)) (hl : xs.length + 1 ≤ 17592186044416) (hbase : base ≤ w.heap.size)
  (k : ∀ g cap w', Own w' base (.slice (some ⟨g, 0, none⟩) (xs.length + 1) cap) (xs ++ [y]) → w.grownBy w' v.ownBlock → (v.ownBlock = some g ∨ g = w.heap.size) → g < w'.heap.size → wpList Tryz.prog ops Q rest (a.put o.dst (.slice (some ⟨g, 0, none⟩) (xs.length + 1) cap)) w') : wpList Tryz.prog ops Q (o :: rest) a w := by
 obtain ⟨i0, hi, hz0, hz1, hz2⟩ := info_parts int_info
 refine wpList_append_lies w hgd s x 25 ho base 3 i0 (.int .i64 0) 1 8 Tryz.underlying25 hi hz0 hz1 hz2 rfl (by decide) v xs.length (xs.map (Value.int .i64)) hs h ⟨b, 0, none⟩ 1 1 [.int .i64 y] hx rfl
  (by intro j u hj; match j, hj with | 0, hj => (simp at hj; subst hj; simpa [Addr.add] using hc) | j + 1, hj => simp at hj) (by simp [Value.oneCell']) (by omega) (by unfold maxLen; omega) (by omega) hbase w.heap.size rfl ?_
 intro g cap w' h1 h2 h3 h4
 refine k g cap w' ?_ h2 h3 h4
 unfold Own
 simpa using h1
theorem Box3.grown {w w' : World} {b : Nat} {x y z : Value} {row : Option Nat} (h : Box3 w b x y z) (hg : w.grownBy w' row) (hr : row ≠ some b) : Box3 w' b x y z := by
 have := h.lt
 obtain ⟨r, h⟩ := h
 exact ⟨r, (hg.block b this (fun e => hr e.symm)).trans h⟩
theorem OwnRows.grow {β : Type} {R : World → Nat → Value → β → List Nat → Prop} {e : TypeId} {w : World} {base g c n : Nat} {xs : List β} {S : List Nat} (L : RowLaw R) (h : OwnRows e R w base (.slice (some ⟨g, 0, none⟩) n c) xs S) {k : Nat} {x : β} (hx : xs[k]? = some x) :
  ∃ u T, w.cell? ⟨g, k, none⟩ = some u ∧ R w base u x T ∧ (∀ j ∈ T, j ∈ S) ∧ g ∉ T ∧ (∀ (u' : Value) (x' : β) (T' : List Nat) (w' : World), R w' base u' x' T' → Only T w w' → (∀ j ∈ T', j ∈ T ∨ w.heap.size ≤ j) → ∃ S', OwnRows e R (w'.setCell ⟨g, k, none⟩ u') base (.slice (some ⟨g, 0, none⟩) n c) (xs.set k x') S' ∧ ∀ j ∈ S', j ∈ S ∨ w.heap.size ≤ j) := by
 have hS := (rows_law e L).range h
 obtain ⟨vs, Ss, h1, h2, h3, h4, h5⟩ := h
 have hk : k < xs.length := lt_of_get hx
 have hn := ownsRow_len h1
 subst hn
 have hvl : vs.length = xs.length := by simpa using h1.1
 obtain ⟨u, hu⟩ := getx vs k (by omega)
 obtain ⟨T, hT⟩ := getx Ss k (by omega)
 have h5' := h5
 rw [h4, List.nodup_append] at h5'
 have hgS : g ∈ S := by rw [h4]; simp [Value.ownBlock]
 have hgF : g ∉ Ss.flatten := fun hg => h5'.2.2 g (by simp [Value.ownBlock]) g hg rfl
 have hTS : ∀ j ∈ T, j ∈ S := fun j hj => by rw [h4]; exact List.mem_append_right _ (List.mem_flatten.2 ⟨T, List.mem_of_getElem? hT, hj⟩)
 have hgT : g ∉ T := fun hg => hgF (List.mem_flatten.2 ⟨T, List.mem_of_getElem? hT, hg⟩)
 refine ⟨u, T, by rw [h1.cellAt (cap := c) k (by omega)]; exact hu, h3 k u x T hu hx hT, hTS, hgT, fun u' x' T' w' hR ho hT' => ?_⟩
 have hglt := (hS g hgS).2
 have hgT' : g ∉ T' := fun hg => by
  rcases hT' g hg with h | h
  ·exact hgT h
  ·omega
 have h1' : w'.ownsRow base e 1 (.slice (some ⟨g, 0, none⟩) xs.length c) xs.length vs := ownsRow_stable h1 (fun j hj => by
  simp [Value.ownBlock] at hj
  subst hj
  exact ho.block _ hglt hgT)
 have hst : ∀ j, j ≠ g → (w'.setCell ⟨g, k, none⟩ u').heap[j]? = w'.heap[j]? := fun j hj => Below.heap_setCell w' _ _ j hj
 refine ⟨(Value.slice (some ⟨g, 0, none⟩) xs.length c).ownBlock.toList ++ (Ss.set k T').flatten, ⟨vs.set k u', Ss.set k T', ?_, by simp [h2], ?_, rfl, ?_⟩, ?_⟩
 ·have := (h1'.stored k u').1
  rw [List.length_set]
  exact this
 ·intro j u2 x2 T2 hu2 hx2 hT2
  by_cases hjk : k = j
  ·subst hjk
   rw [List.getElem?_set_self (by omega)] at hu2 hx2 hT2
   cases hu2; cases hx2; cases hT2
   exact L.stable hR (fun i hi => hst i (fun e => hgT' (e ▸ hi)))
  ·rw [List.getElem?_set_ne hjk] at hu2 hx2 hT2
   have h0 := h3 j u2 x2 T2 hu2 hx2 hT2
   refine L.stable h0 (fun i hi => (hst i (fun e => hgF ?_)).trans (ho.block i (L.range h0 i hi).2 (flatten_disj h5'.2.1 (Ne.symm hjk) hT2 hT hi)))
   subst e
   exact List.mem_flatten.2 ⟨T2, List.mem_of_getElem? hT2, hi⟩
 ·rw [List.nodup_append]
  refine ⟨h5'.1, flatten_set_nodup h5'.2.1 (L.nodup hR) (fun i j U hik hU hj hjT => ?_), fun a ha b hb hab => ?_⟩
  ·rcases hT' j hjT with h | h
   ·exact flatten_disj h5'.2.1 hik hU hT hj h
   ·have := (hS j (by rw [h4]; exact List.mem_append_right _ (List.mem_flatten.2 ⟨U, List.mem_of_getElem? hU, hj⟩))).2
    omega
  ·subst hab
   simp [Value.ownBlock] at ha
   subst ha
   rcases flatten_set_mem hb with hb | hb
   ·exact hgF hb
   ·exact hgT' hb
 ·intro j hj
  rcases List.mem_append.1 hj with hj | hj
  ·left; rw [h4]; exact List.mem_append_left _ hj
  ·rcases flatten_set_mem hj with hj | hj
   ·left; rw [h4]; exact List.mem_append_right _ hj
   ·rcases hT' j hj with h | h
    ·exact .inl (hTS j h)
    ·exact .inr h
theorem OwnNet.growRow {w : World} {base g c n : Nat} {vi vn : Value} {N : Net} {S : List Nat} (h : OwnNet w base (.slice (some ⟨g, 0, none⟩) n c) vi vn N S) {k : Nat} {x : List (Int × Int)} (hx : N.ends[k]? = some x) :
  ∃ u T, w.cell? ⟨g, k, none⟩ = some u ∧ w.frozen? ⟨g, k, none⟩ = false ∧ OwnE w base u x T ∧ (∀ j ∈ T, j ∈ S) ∧ g ∉ T ∧ g ∈ S ∧ (∀ (u' : Value) (x' : List (Int × Int)) (T' : List Nat) (w' : World), OwnE w' base u' x' T' → Only T w w' → (∀ j ∈ T', j ∈ T ∨ w.heap.size ≤ j) →
   ∃ S', OwnNet (w'.setCell ⟨g, k, none⟩ u') base (.slice (some ⟨g, 0, none⟩) n c) vi vn { N with ends := N.ends.set k x' } S' ∧ ∀ j ∈ S', j ∈ S ∨ w.heap.size ≤ j) := by
 have hrg := h.range
 obtain ⟨S1, S2, S3, h1, h2, h3, h4, h5⟩ := h
 obtain ⟨_, _, _, hf, _, _, _, hg1⟩ := OwnRows.at_ h1 hx
 obtain ⟨u, T, hu, hR, hTS, hgT, hgrow⟩ := OwnRows.grow lawE h1 hx
 have hTS' : ∀ j ∈ T, j ∈ S := fun j hj => by rw [h4]; exact List.mem_append_left _ (hTS j hj)
 have hgS : g ∈ S := by rw [h4]; exact List.mem_append_left _ hg1
 refine ⟨u, T, hu, hf, hR, hTS', hgT, hgS, fun u' x' T' w' hR' ho hT' => ?_⟩
 obtain ⟨S1', o1, hs⟩ := hgrow u' x' T' w' hR' ho hT'
 rw [h4, List.nodup_append] at h5
 obtain ⟨n1, n2, n3⟩ := h5
 have ho2 : Only (g :: T) w (w'.setCell ⟨g, k, none⟩ u') := (ho.mono (fun j hj => List.mem_cons_of_mem _ hj)).setCell (.inl (by simp)) _
 have d : ∀ j ∈ S2 ++ S3, j ∉ g :: T := fun j hj hg' => by
  rcases List.mem_cons.1 hg' with rfl | hg'
  ·exact n3 _ hg1 _ hj rfl
  ·exact n3 _ (hTS j hg') _ hj rfl
 refine ⟨S1' ++ (S2 ++ S3), ⟨S1', S2, S3, o1, lawI.only h2 ho2 (fun j hj => d j (List.mem_append_left _ hj)), lawI.only h3 ho2 (fun j hj => d j (List.mem_append_right _ hj)), rfl, ?_⟩, ?_⟩
 ·rw [List.nodup_append]
  refine ⟨lawEE.nodup o1, n2, fun a ha b hb hab => ?_⟩
  subst hab
  rcases hs a ha with h | h
  ·exact n3 a h a hb rfl
  ·have := (hrg a (by rw [h4]; exact List.mem_append_right _ hb)).2
   omega
 ·intro j hj
  rcases List.mem_append.1 hj with hj | hj
  ·rcases hs j hj with h | h
   ·exact .inl (by rw [h4]; exact List.mem_append_left _ h)
   ·exact .inr h
  ·exact .inl (by rw [h4]; exact List.mem_append_right _ hj)
theorem ownNet_nil (w : World) (base : Nat) : OwnNet w base (.slice none 0 0) (.slice none 0 0) (.slice none 0 0) ⟨[], [], []⟩ [] :=
 ⟨[], [], [], ⟨[], [], World.ownsRow_nil w base _ _, rfl, fun k u x T h => by simp at h, rfl, by simp⟩, ownI_nil _ _, ownI_nil _ _, rfl, by simp⟩
theorem bf {w w' : World} (hb : Below w.heap.size w w') {a : Addr} {u : Value} (h : w.cell? a = some u) (hf : w.frozen? a = false) : w'.frozen? a = false := (hb.frozen (World.block_lt_of_cell? w _ h)).trans hf
theorem Only.fz {S : List Nat} {a b : World} (h : Only S a b) {p : Addr} {u : Value} (hp : p.block ∉ S) (hc : a.cell? p = some u) (hf : a.frozen? p = false) : b.frozen? p = false :=
 (World.frozen?_of_block (h.block p.block (World.block_lt_of_cell? a _ hc) hp)).trans hf
end Go.Proofs.YtgmdpppljkmabaaGreat
