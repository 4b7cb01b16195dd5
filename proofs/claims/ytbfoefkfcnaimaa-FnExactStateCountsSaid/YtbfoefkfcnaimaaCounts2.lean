import Derived.Test.YtbfoefkfcnaimaaCounts
namespace Go.Proofs.Ytbfoefkfcnaimaa
open Go.RowKit
theorem mostB_snoc {xs : List Int} {k : Nat} {x : Int} (hx : xs[k]? = some x) : mostB (xs.take (k + 1)) = mx (mostB (xs.take k)) x := by rw [take_snoc hx, mostB, List.foldl_append]; rfl
theorem mostB_bd {c : Int} : ∀ (xs : List Int) (a : Int), 0 ≤ a → a ≤ c → (∀ x ∈ xs, 0 ≤ x ∧ x ≤ c) → 0 ≤ xs.foldl mx a ∧ xs.foldl mx a ≤ c
  | [], a, h0, h1, _ => ⟨h0, h1⟩
  | x :: xs, a, h0, h1, h => by
    have hx := h x (by simp)
    have hm : 0 ≤ mx a x ∧ mx a x ≤ c := by unfold mx; split <;> omega
    exact mostB_bd xs (mx a x) hm.1 hm.2 (fun y hy => h y (List.mem_cons_of_mem _ hy))
theorem mx_max (q x : Int) : mx q x = max q x := by unfold mx; rw [Int.max_def]; split <;> split <;> omega
set_option maxHeartbeats 2000000 in
theorem maxI_any (v : Value) (xs : List Int) (w : World) (h : IntS w v xs) (h1 : 1 ≤ xs.length) (hb : ∀ x ∈ xs, 0 ≤ x) :
    Calls Try.prog 146 #[v] w fun e w' => e = .returned (.int .i64 (mostB xs)) ∧ w = w' := by
  obtain ⟨A, c, rfl, hlc, hm, hA⟩ := h
  unfold maxLen at hm
  have HA := Lib.hid hA
  obtain ⟨x0, hx0⟩ := getx xs 0 (by omega)
  obtain ⟨b, off, rfl, hc0⟩ := hA 0 x0 hx0
  rw [Nat.add_zero] at hc0
  have h0 := hb x0 (List.mem_of_getElem? hx0)
  have Hst : Hid (mostB (xs.take 1) = x0) := by
    show _ = _
    rw [mostB_snoc hx0]
    show mx 0 x0 = x0
    unfold mx
    rw [if_neg (by omega)]
  have hlt1 : ¬ ((xs.length : Int) < 1) := by omega
  have hpos : 0 < xs.length := by omega
  clear hA hx0 hb
  go_enter Try.func146, Try.ntmps146
  go_wp2
  go_loopw [3, 4] (fun q i wr => ∃ k : Nat, 1 ≤ k ∧ k ≤ xs.length ∧ i = .int .i64 k ∧ q = .int .i64 (mostB (xs.take k)) ∧ wr = w) (fun _ i _ => xs.length - (intOf i).toNat)
  case atStart => exact ⟨1, Nat.le_refl _, h1, rfl, by rw [Hst.out], rfl⟩
  case round =>
    obtain ⟨k, hk1, hk, rfl, rfl, hww⟩ := hrel
    obtain rfl := hww.symm
    clear hww
    by_cases hlt : k < xs.length
    · obtain ⟨x, hx⟩ := getx xs k hlt
      obtain ⟨b', off', hbe, hcell⟩ := HA.out k x hx
      cases hbe
      obtain ⟨q, hq⟩ : ∃ q, q = mostB (xs.take k) := ⟨_, rfl⟩
      have Hn : Hid (mostB (xs.take (k + 1)) = mx q x) := by show _ = _; rw [mostB_snoc hx, hq]
      have m3 : IntKind.i64.wrap ((k : Int) + 1) = (k : Int) + 1 := wr64 _ (by omega) (by omega)
      rw [← hq]
      clear hx hq hc0
      have Hm : Hid (mx q x = max q x) := mx_max q x
      go_wp2
      go_roundw
      case rel => exact ⟨k + 1, by omega, by omega, by go_num, by rw [Hn.out, Hm.out], by first | rfl | trivial⟩
      case measure => simp [intOf]; omega
    · obtain rfl : k = xs.length := by omega
      have Hr : Hid (mostB (xs.take xs.length) = mostB xs) := by show _ = _; rw [List.take_length]
      go_wp2
      go_ret
      exact ⟨congrArg (fun q => Ending.returned (.int .i64 q)) Hr.out, rfl⟩
def countB (n : Net) (r : Int) (v : Nat) : Int := if r = 2 then mostB (degsB n) + 1 else if r = 3 then 2 else if r = 4 then ((n.ends.getD v []).length : Int) + 1 else (n.ends.length : Int) + 1
def countsB (n : Net) (r : Int) : List Int := (List.range n.ends.length).map (countB n r)
theorem most_degs {n : Net} (hn : netOk n = true) : 0 ≤ mostB (degsB n) ∧ mostB (degsB n) ≤ 6 := mostB_bd (degsB n) 0 (Int.le_refl _) (by omega) (degsB_bd hn)
set_option maxHeartbeats 4000000 in
theorem ssCount_any (ve vi vn : Value) (n : Net) (r : Int) (v : Nat) (w : World) (h : NetIn w ve vi vn n) (hn : netOk n = true) (hv : v < n.ends.length) :
    Calls Try.prog 144 #[.agg #[ve, vi, vn], .int .i64 r, .int .i64 v] w fun e w' => e = .returned (.int .i64 (countB n r v)) ∧ Below w.heap.size w w' := by
  have hn40 := (netOk_len hn).2
  obtain ⟨w0, hw0⟩ : ∃ w0, w0 = (w).alloc (.cells #[ve, vi, vn] 31) := ⟨_, rfl⟩
  have hb0 : Below w.heap.size w w0 := by rw [hw0]; exact ((Below.refl _ _).alloc (by simp) _)
  have H := Lib.hid (h.keep hb0)
  obtain ⟨h1, h2, h3⟩ := h.keep hb0
  obtain ⟨A, c, rfl, hlc, hm, hA⟩ := h1
  obtain ⟨A2, c2, rfl, _, hm2, _⟩ := h2
  obtain ⟨A3, c3, rfl, _, hm3, _⟩ := h3
  unfold maxLen at hm hm2 hm3
  have p00 : ∀ W, Since w0 W → W.cell? ⟨w.heap.size, 0, none⟩ = some (.slice A n.ends.length c) := have_cell (by rw [hw0]; simp)
  have p01 : ∀ W, Since w0 W → W.cell? ⟨w.heap.size, 1, none⟩ = some (.slice A2 n.ids.length c2) := have_cell (by rw [hw0]; simp)
  have p02 : ∀ W, Since w0 W → W.cell? ⟨w.heap.size, 2, none⟩ = some (.slice A3 n.inputs.length c3) := have_cell (by rw [hw0]; simp)
  have Hb0 := Lib.hid hb0
  have Hw0 := Lib.hid hw0
  have HA := Lib.hid hA
  clear hA h
  clear hb0 hw0
  have Hn := Lib.hid hn
  have hmd := most_degs hn
  have hs0 : Since w0 w0 := since_refl _
  obtain ⟨Y, hY⟩ : ∃ Y, Y = countB n r v := ⟨_, rfl⟩
  have HY := Lib.hid hY
  rw [← hY]
  clear hn hY
  by_cases h2 : r = 2
  · subst h2
    obtain ⟨ml, hml⟩ : ∃ ml, ml = mostB (degsB n) := ⟨_, rfl⟩
    rw [← hml] at hmd
    have HR : Hid (Y = ml + 1) := by show _ = _; rw [HY.out, countB, if_pos rfl, ← hml]
    have Hml := Lib.hid hml
    have m1 : IntKind.i64.wrap (ml + 1) = ml + 1 := wr64 _ (by omega) (by omega)
    clear hml
    go_enter Try.func144, Try.ntmps144
    go_upto_region 1 with (fail)
    rw [← Hw0.out]
    go_wp2_with fail
    refine (neDegrees_any _ _ _ n w0 H.out Hn.out).mono ?_
    rintro e w1 ⟨u, rfl, ho, hb⟩
    have hc := meMost_any u (degsB n) w1 ho.ints
    rw [← Hml.out] at hc
    have Hc := Lib.hid hc
    have Hs1 : Hid (Since w0 w1) := hb
    obtain ⟨Bu, du, rfl, _⟩ := id ho.ints
    rw [degsB_len] at Hc ⊢
    clear hc ho hb hs0
    go_wp2_with fail
    refine Hc.out.mono ?_
    rintro e w2 ⟨rfl, rfl⟩
    go_wp2
    go_ret
    exact ⟨congrArg (fun q => Ending.returned (.int .i64 q)) HR.out.symm, Since.after Hb0.out Hs1.out⟩
  · have b2 : (r == 2) = false := by rw [beq_eq_false_iff_ne]; exact h2
    by_cases h3 : r = 3
    · subst h3
      have HR : Hid (Y = 2) := by show _ = _; rw [HY.out]; simp [countB]
      clear h2
      go_enter Try.func144, Try.ntmps144
      go_upto_region 1 with (fail)
      rw [← Hw0.out]
      go_wp2
      go_ret
      exact ⟨congrArg (fun q => Ending.returned (.int .i64 q)) HR.out.symm, Hb0.out⟩
    · have b3 : (r == 3) = false := by rw [beq_eq_false_iff_ne]; exact h3
      by_cases h4 : r = 4
      · subst h4
        obtain ⟨es, hes⟩ := getx n.ends v hv
        obtain ⟨hes6, -⟩ := netOk_row Hn.out hes
        have HR : Hid (Y = (es.length : Int) + 1) := by show _ = _; rw [HY.out]; unfold countB; rw [if_neg (by decide), if_neg (by decide), if_pos rfl, getD_of hes]
        obtain ⟨b, offr, cr, ur, hA1, hkr, hc1, hrow⟩ := row_at H.out.es hes
        cases hA1
        obtain ⟨A1, z1, rfl, hz1, hz2, hA1⟩ := hrow
        unfold maxLen at hz2
        have m1 : IntKind.i64.wrap ((es.length : Int) + 1) = (es.length : Int) + 1 := wr64 _ (by omega) (by omega)
        clear hes hA1 h2 h3
        go_enter Try.func144, Try.ntmps144
        go_upto_region 1 with (fail)
        rw [← Hw0.out]
        go_wp2
        go_ret
        exact ⟨congrArg (fun q => Ending.returned (.int .i64 q)) HR.out.symm, Hb0.out⟩
      · have b4 : (r == 4) = false := by rw [beq_eq_false_iff_ne]; exact h4
        have HR : Hid (Y = (n.ends.length : Int) + 1) := by show _ = _; rw [HY.out, countB, if_neg h2, if_neg h3, if_neg h4]
        have m1 : IntKind.i64.wrap ((n.ends.length : Int) + 1) = (n.ends.length : Int) + 1 := wr64 _ (by omega) (by omega)
        clear h2 h3 h4
        go_enter Try.func144, Try.ntmps144
        go_upto_region 1 with (fail)
        rw [← Hw0.out]
        go_wp2
        go_ret
        exact ⟨congrArg (fun q => Ending.returned (.int .i64 q)) HR.out.symm, Hb0.out⟩
end Go.Proofs.Ytbfoefkfcnaimaa
