import Derived.Test.YtlfehdikgbgloaaGreatRuns
namespace Go.Proofs.YtlfehdikgbgloaaGreat
open Go.RowKit
def degsB (n : Net) : List Int := n.ends.map fun es => (es.length : Int)
theorem degsB_len (n : Net) : (degsB n).length = n.ends.length := by simp [degsB]
theorem degsB_at {n : Net} {k : Nat} {es : List (Int × Int)} (h : n.ends[k]? = some es) : (degsB n)[k]? = some (es.length : Int) := by simp [degsB, h]
theorem degsB_bd {n : Net} (hn : netOk n = true) : ∀ x ∈ degsB n, 0 ≤ x ∧ x ≤ 6 := by
  intro x hx
  unfold degsB at hx
  obtain ⟨es, hes, rfl⟩ := List.mem_map.1 hx
  obtain ⟨k, hk, hke⟩ := List.getElem_of_mem hes
  have := (netOk_row hn (show n.ends[k]? = some es by rw [List.getElem?_eq_getElem hk, hke])).1
  omega
set_option maxHeartbeats 4000000 in
theorem degrees_any (ve vi vn : Value) (n : Net) (w : World) (h : NetIn w ve vi vn n) (hn : netOk n = true) :
    Calls Tryz.prog 176 #[.agg #[ve, vi, vn]] w fun e w' => ∃ u, e = .returned u ∧ Own w' w.heap.size u (degsB n) ∧ Below w.heap.size w w' := by
  have hn40 := (netOk_len hn).2
  obtain ⟨w0, hw0⟩ : ∃ w0, w0 = (w).alloc (.cells #[ve, vi, vn] 31) := ⟨_, rfl⟩
  have hb0 : Below w.heap.size w w0 := by rw [hw0]; exact ((Below.refl _ _).alloc (by simp) _)
  have H := Lib.hid (h.keep hb0)
  obtain ⟨h1, h2, h3⟩ := h.keep hb0
  obtain ⟨A, c, rfl, hlc, hm, hA⟩ := h1
  obtain ⟨A2, c2, rfl, _, hm2, _⟩ := h2
  obtain ⟨A3, c3, rfl, _, hm3, _⟩ := h3
  unfold maxLen at hm hm2 hm3
  have p00 : ∀ W, Since w0 W → W.cell? ⟨w.heap.size, 0, none⟩ = some (.slice A n.ends.length c) := have_cell (by rw [hw0]; simp)
  have p01 : ∀ W, Since w0 W → W.cell? ⟨w.heap.size, 1, none⟩ = some (.slice A2 n.ids.length c2) := have_cell (by rw [hw0]; simp)
  have p02 : ∀ W, Since w0 W → W.cell? ⟨w.heap.size, 2, none⟩ = some (.slice A3 n.inputs.length c3) := have_cell (by rw [hw0]; simp)
  have Hb0 := Lib.hid hb0
  have Hw0 := Lib.hid hw0
  have HA := Lib.hid hA
  clear hA h
  clear hb0 hw0
  have hs0 : Since w0 w0 := since_refl _
  clear hn
  go_enter Tryz.func176, Tryz.ntmps176
  go_upto_region 1 with (fail)
  rw [← Hw0.out]
  go_wp2
  go_loopw [3, 9] (fun u i wr => ∃ k : Nat, k ≤ n.ends.length ∧ i = .int .i64 k ∧ Own wr w0.heap.size u ((degsB n).take k) ∧ Since w0 wr) (fun _ i _ => n.ends.length - (intOf i).toNat)
  case atStart => exact ⟨0, Nat.zero_le _, rfl, by simpa using own_nil _ w0.heap.size, hs0⟩
  case round =>
    obtain ⟨k, hk, rfl, ho, hs⟩ := hrel
    have Ho := Lib.hid ho
    have Hs := Lib.hid hs
    clear hs0 ho hs
    by_cases hlt : k < n.ends.length
    · obtain ⟨es, hes⟩ := getx n.ends k hlt
      obtain ⟨b, offr, cr, ur, hA1, hkr, hc1, hrow⟩ := row_at H.out.es hes
      cases hA1
      obtain ⟨A1, z1, rfl, hz1, hz2, hA1⟩ := hrow
      unfold maxLen at hz2
      have q5 := have_cell hc1 wr Hs.out
      have hd := degsB_at hes
      have Hlen : Hid (((degsB n).take k).length + 1 ≤ 17592186044416) := by show _ ≤ _; rw [List.length_take]; omega
      have Hnx : Hid ((degsB n).take (k + 1) = (degsB n).take k ++ [(es.length : Int)]) := take_snoc hd
      have m3 : IntKind.i64.wrap ((k : Int) + 1) = (k : Int) + 1 := wr64 _ (by omega) (by omega)
      clear hes hc1 hA1 hd
      go_wp2_with (at_builtin; refine app_int_s rfl _ _ rfl rfl (Ho.out.since (since_alloc _ (since_refl _))) wr.heap.size (es.length : Int) rfl (by simp [go_sem]) Hlen.out (since_alloc _ Hs.out) ?_; intro g cc w2 ho2 hs3)
      have Ho2 := Lib.hid ho2
      have Hs2 := Lib.hid hs3
      clear ho2 hs3
      go_wp2
      go_roundw
      case rel => exact ⟨k + 1, by omega, by go_num, by rw [Hnx.out]; have := Ho2.out; first | exact this | (rw [List.length_take] at this; exact this) | (simpa using this), Hs2.out⟩
      case measure => simp [intOf]; omega
    · obtain rfl : k = n.ends.length := by omega
      go_wp2
      go_ret
      exact ⟨_, rfl, by have := Ho.out; rw [List.take_of_length_le (by rw [degsB_len]; exact Nat.le_refl _)] at this; exact this.mono Hb0.out.size, Since.after Hb0.out Hs.out⟩
set_option maxHeartbeats 4000000 in
theorem neDegrees_any (ve vi vn : Value) (n : Net) (w : World) (h : NetIn w ve vi vn n) (hn : netOk n = true) :
    Calls Tryz.prog 173 #[.agg #[ve, vi, vn]] w fun e w' => ∃ u, e = .returned u ∧ Own w' w.heap.size u (degsB n) ∧ Below w.heap.size w w' := by
  have hn40 := (netOk_len hn).2
  obtain ⟨w0, hw0⟩ : ∃ w0, w0 = (w).alloc (.cells #[ve, vi, vn] 31) := ⟨_, rfl⟩
  have hb0 : Below w.heap.size w w0 := by rw [hw0]; exact ((Below.refl _ _).alloc (by simp) _)
  have H := Lib.hid (h.keep hb0)
  obtain ⟨h1, h2, h3⟩ := h.keep hb0
  obtain ⟨A, c, rfl, hlc, hm, hA⟩ := h1
  obtain ⟨A2, c2, rfl, _, hm2, _⟩ := h2
  obtain ⟨A3, c3, rfl, _, hm3, _⟩ := h3
  unfold maxLen at hm hm2 hm3
  have p00 : ∀ W, Since w0 W → W.cell? ⟨w.heap.size, 0, none⟩ = some (.slice A n.ends.length c) := have_cell (by rw [hw0]; simp)
  have p01 : ∀ W, Since w0 W → W.cell? ⟨w.heap.size, 1, none⟩ = some (.slice A2 n.ids.length c2) := have_cell (by rw [hw0]; simp)
  have p02 : ∀ W, Since w0 W → W.cell? ⟨w.heap.size, 2, none⟩ = some (.slice A3 n.inputs.length c3) := have_cell (by rw [hw0]; simp)
  have Hb0 := Lib.hid hb0
  have Hw0 := Lib.hid hw0
  have HA := Lib.hid hA
  clear hA h
  clear hb0 hw0
  have hs0 : Since w0 w0 := since_refl _
  clear hn
  go_enter Tryz.func173, Tryz.ntmps173
  go_upto_region 1 with (fail)
  rw [← Hw0.out]
  go_wp2
  go_loopw [3, 9] (fun u i wr => ∃ k : Nat, k ≤ n.ends.length ∧ i = .int .i64 k ∧ Own wr w0.heap.size u ((degsB n).take k) ∧ Since w0 wr) (fun _ i _ => n.ends.length - (intOf i).toNat)
  case atStart => exact ⟨0, Nat.zero_le _, rfl, by simpa using own_nil _ w0.heap.size, hs0⟩
  case round =>
    obtain ⟨k, hk, rfl, ho, hs⟩ := hrel
    have Ho := Lib.hid ho
    have Hs := Lib.hid hs
    clear hs0 ho hs
    by_cases hlt : k < n.ends.length
    · obtain ⟨es, hes⟩ := getx n.ends k hlt
      obtain ⟨b, offr, cr, ur, hA1, hkr, hc1, hrow⟩ := row_at H.out.es hes
      cases hA1
      obtain ⟨A1, z1, rfl, hz1, hz2, hA1⟩ := hrow
      unfold maxLen at hz2
      have q5 := have_cell hc1 wr Hs.out
      have hd := degsB_at hes
      have Hlen : Hid (((degsB n).take k).length + 1 ≤ 17592186044416) := by show _ ≤ _; rw [List.length_take]; omega
      have Hnx : Hid ((degsB n).take (k + 1) = (degsB n).take k ++ [(es.length : Int)]) := take_snoc hd
      have m3 : IntKind.i64.wrap ((k : Int) + 1) = (k : Int) + 1 := wr64 _ (by omega) (by omega)
      clear hes hc1 hA1 hd
      go_wp2_with (at_builtin; refine app_int_s rfl _ _ rfl rfl (Ho.out.since (since_alloc _ (since_refl _))) wr.heap.size (es.length : Int) rfl (by simp [go_sem]) Hlen.out (since_alloc _ Hs.out) ?_; intro g cc w2 ho2 hs3)
      have Ho2 := Lib.hid ho2
      have Hs2 := Lib.hid hs3
      clear ho2 hs3
      go_wp2
      go_roundw
      case rel => exact ⟨k + 1, by omega, by go_num, by rw [Hnx.out]; have := Ho2.out; first | exact this | (rw [List.length_take] at this; exact this) | (simpa using this), Hs2.out⟩
      case measure => simp [intOf]; omega
    · obtain rfl : k = n.ends.length := by omega
      go_wp2
      go_ret
      exact ⟨_, rfl, by have := Ho.out; rw [List.take_of_length_le (by rw [degsB_len]; exact Nat.le_refl _)] at this; exact this.mono Hb0.out.size, Since.after Hb0.out Hs.out⟩
def mx (a b : Int) : Int := if b < a then a else b
theorem l1Most_any (a b : Int) (w : World) : Calls Tryz.prog 87 #[.int .i64 a, .int .i64 b] w fun e w' => e = .returned (.int .i64 (mx a b)) ∧ w = w' := by
  by_cases h : b < a
  · have hr : mx a b = a := if_pos h
    rw [hr]
    go_enter Tryz.func87, Tryz.ntmps87
    go_wp2
    go_ret
    exact ⟨rfl, rfl⟩
  · have hr : mx a b = b := if_neg h
    rw [hr]
    go_enter Tryz.func87, Tryz.ntmps87
    go_wp2
    go_ret
    exact ⟨rfl, rfl⟩
def mostB (xs : List Int) : Int := xs.foldl mx 0
set_option maxHeartbeats 2000000 in
theorem meMost_any (v : Value) (xs : List Int) (w : World) (h : IntS w v xs) :
    Calls Tryz.prog 172 #[v] w fun e w' => e = .returned (.int .i64 (mostB xs)) ∧ w = w' := by
  obtain ⟨A, c, rfl, hlc, hm, hA⟩ := h
  unfold maxLen at hm
  have HA := Lib.hid hA
  clear hA
  go_enter Tryz.func172, Tryz.ntmps172
  go_wp2
  go_loopw [3, 8] (fun q i wr => ∃ k : Nat, k ≤ xs.length ∧ i = .int .i64 k ∧ q = .int .i64 (mostB (xs.take k)) ∧ wr = w) (fun _ i _ => xs.length - (intOf i).toNat)
  case atStart => exact ⟨0, Nat.zero_le _, rfl, rfl, rfl⟩
  case round =>
    obtain ⟨k, hk, rfl, rfl, hww⟩ := hrel
    obtain rfl := hww.symm
    clear hww
    by_cases hlt : k < xs.length
    · obtain ⟨x, hx⟩ := getx xs k hlt
      obtain ⟨b, off, rfl, hcell⟩ := HA.out k x hx
      obtain ⟨q, hq⟩ : ∃ q, q = mostB (xs.take k) := ⟨_, rfl⟩
      have Hn : Hid (mostB (xs.take (k + 1)) = mx q x) := by show _ = _; rw [take_snoc hx, hq, mostB, List.foldl_append]; rfl
      have m3 : IntKind.i64.wrap ((k : Int) + 1) = (k : Int) + 1 := wr64 _ (by omega) (by omega)
      rw [← hq]
      clear hx hq
      go_wp2_with fail
      refine (l1Most_any q x w).mono ?_
      rintro e w1 ⟨rfl, rfl⟩
      clear hcell
      go_wp2
      go_roundw
      case rel => exact ⟨k + 1, by omega, by go_num, by rw [Hn.out], by first | rfl | trivial⟩
      case measure => simp [intOf]; omega
    · obtain rfl : k = xs.length := by omega
      have Hr : Hid (mostB (xs.take xs.length) = mostB xs) := by show _ = _; rw [List.take_length]
      go_wp2
      go_ret
      exact ⟨congrArg (fun q => Ending.returned (.int .i64 q)) Hr.out, rfl⟩
end Go.Proofs.YtlfehdikgbgloaaGreat
namespace Go.Proofs.YtlfehdikgbgloaaGreat
open Go.RowKit
theorem mostB_snoc {xs : List Int} {k : Nat} {x : Int} (hx : xs[k]? = some x) : mostB (xs.take (k + 1)) = mx (mostB (xs.take k)) x := by rw [take_snoc hx, mostB, List.foldl_append]; rfl
theorem mostB_bd {c : Int} : ∀ (xs : List Int) (a : Int), 0 ≤ a → a ≤ c → (∀ x ∈ xs, 0 ≤ x ∧ x ≤ c) → 0 ≤ xs.foldl mx a ∧ xs.foldl mx a ≤ c
  | [], a, h0, h1, _ => ⟨h0, h1⟩
  | x :: xs, a, h0, h1, h => by
    have hx := h x (by simp)
    have hm : 0 ≤ mx a x ∧ mx a x ≤ c := by unfold mx; split <;> omega
    exact mostB_bd xs (mx a x) hm.1 hm.2 (fun y hy => h y (List.mem_cons_of_mem _ hy))
theorem mx_max (q x : Int) : mx q x = max q x := by unfold mx; rw [Int.max_def]; split <;> split <;> omega
set_option maxHeartbeats 2000000 in
theorem maxI_any (v : Value) (xs : List Int) (w : World) (h : IntS w v xs) (h1 : 1 ≤ xs.length) (hb : ∀ x ∈ xs, 0 ≤ x) :
    Calls Tryz.prog 108 #[v] w fun e w' => e = .returned (.int .i64 (mostB xs)) ∧ w = w' := by
  obtain ⟨A, c, rfl, hlc, hm, hA⟩ := h
  unfold maxLen at hm
  have HA := Lib.hid hA
  obtain ⟨x0, hx0⟩ := getx xs 0 (by omega)
  obtain ⟨b, off, rfl, hc0⟩ := hA 0 x0 hx0
  rw [Nat.add_zero] at hc0
  have h0 := hb x0 (List.mem_of_getElem? hx0)
  have Hst : Hid (mostB (xs.take 1) = x0) := by
    show _ = _
    rw [mostB_snoc hx0]
    show mx 0 x0 = x0
    unfold mx
    rw [if_neg (by omega)]
  have hlt1 : ¬ ((xs.length : Int) < 1) := by omega
  have hpos : 0 < xs.length := by omega
  clear hA hx0 hb
  go_enter Tryz.func108, Tryz.ntmps108
  go_wp2
  go_loopw [3, 4] (fun q i wr => ∃ k : Nat, 1 ≤ k ∧ k ≤ xs.length ∧ i = .int .i64 k ∧ q = .int .i64 (mostB (xs.take k)) ∧ wr = w) (fun _ i _ => xs.length - (intOf i).toNat)
  case atStart => exact ⟨1, Nat.le_refl _, h1, rfl, by rw [Hst.out], rfl⟩
  case round =>
    obtain ⟨k, hk1, hk, rfl, rfl, hww⟩ := hrel
    obtain rfl := hww.symm
    clear hww
    by_cases hlt : k < xs.length
    · obtain ⟨x, hx⟩ := getx xs k hlt
      obtain ⟨b', off', hbe, hcell⟩ := HA.out k x hx
      cases hbe
      obtain ⟨q, hq⟩ : ∃ q, q = mostB (xs.take k) := ⟨_, rfl⟩
      have Hn : Hid (mostB (xs.take (k + 1)) = mx q x) := by show _ = _; rw [mostB_snoc hx, hq]
      have m3 : IntKind.i64.wrap ((k : Int) + 1) = (k : Int) + 1 := wr64 _ (by omega) (by omega)
      rw [← hq]
      clear hx hq hc0
      have Hm : Hid (mx q x = max q x) := mx_max q x
      go_wp2
      go_roundw
      case rel => exact ⟨k + 1, by omega, by omega, by go_num, by rw [Hn.out, Hm.out], by first | rfl | trivial⟩
      case measure => simp [intOf]; omega
    · obtain rfl : k = xs.length := by omega
      have Hr : Hid (mostB (xs.take xs.length) = mostB xs) := by show _ = _; rw [List.take_length]
      go_wp2
      go_ret
      exact ⟨congrArg (fun q => Ending.returned (.int .i64 q)) Hr.out, rfl⟩
def countB (n : Net) (r : Int) (v : Nat) : Int := if r = 2 then mostB (degsB n) + 1 else if r = 3 then 2 else if r = 4 then ((n.ends.getD v []).length : Int) + 1 else (n.ends.length : Int) + 1
def countsB (n : Net) (r : Int) : List Int := (List.range n.ends.length).map (countB n r)
theorem most_degs {n : Net} (hn : netOk n = true) : 0 ≤ mostB (degsB n) ∧ mostB (degsB n) ≤ 6 := mostB_bd (degsB n) 0 (Int.le_refl _) (by omega) (degsB_bd hn)
set_option maxHeartbeats 4000000 in
theorem ssCount_any (ve vi vn : Value) (n : Net) (r : Int) (v : Nat) (w : World) (h : NetIn w ve vi vn n) (hn : netOk n = true) (hv : v < n.ends.length) :
    Calls Tryz.prog 110 #[.agg #[ve, vi, vn], .int .i64 r, .int .i64 v] w fun e w' => e = .returned (.int .i64 (countB n r v)) ∧ Below w.heap.size w w' := by
  have hn40 := (netOk_len hn).2
  obtain ⟨w0, hw0⟩ : ∃ w0, w0 = (w).alloc (.cells #[ve, vi, vn] 31) := ⟨_, rfl⟩
  have hb0 : Below w.heap.size w w0 := by rw [hw0]; exact ((Below.refl _ _).alloc (by simp) _)
  have H := Lib.hid (h.keep hb0)
  obtain ⟨h1, h2, h3⟩ := h.keep hb0
  obtain ⟨A, c, rfl, hlc, hm, hA⟩ := h1
  obtain ⟨A2, c2, rfl, _, hm2, _⟩ := h2
  obtain ⟨A3, c3, rfl, _, hm3, _⟩ := h3
  unfold maxLen at hm hm2 hm3
  have p00 : ∀ W, Since w0 W → W.cell? ⟨w.heap.size, 0, none⟩ = some (.slice A n.ends.length c) := have_cell (by rw [hw0]; simp)
  have p01 : ∀ W, Since w0 W → W.cell? ⟨w.heap.size, 1, none⟩ = some (.slice A2 n.ids.length c2) := have_cell (by rw [hw0]; simp)
  have p02 : ∀ W, Since w0 W → W.cell? ⟨w.heap.size, 2, none⟩ = some (.slice A3 n.inputs.length c3) := have_cell (by rw [hw0]; simp)
  have Hb0 := Lib.hid hb0
  have Hw0 := Lib.hid hw0
  have HA := Lib.hid hA
  clear hA h
  clear hb0 hw0
  have Hn := Lib.hid hn
  have hmd := most_degs hn
  have hs0 : Since w0 w0 := since_refl _
  obtain ⟨Y, hY⟩ : ∃ Y, Y = countB n r v := ⟨_, rfl⟩
  have HY := Lib.hid hY
  rw [← hY]
  clear hn hY
  by_cases h2 : r = 2
  · subst h2
    obtain ⟨ml, hml⟩ : ∃ ml, ml = mostB (degsB n) := ⟨_, rfl⟩
    rw [← hml] at hmd
    have HR : Hid (Y = ml + 1) := by show _ = _; rw [HY.out, countB, if_pos rfl, ← hml]
    have Hml := Lib.hid hml
    have m1 : IntKind.i64.wrap (ml + 1) = ml + 1 := wr64 _ (by omega) (by omega)
    clear hml
    go_enter Tryz.func110, Tryz.ntmps110
    go_upto_region 1 with (fail)
    rw [← Hw0.out]
    go_wp2_with fail
    refine (neDegrees_any _ _ _ n w0 H.out Hn.out).mono ?_
    rintro e w1 ⟨u, rfl, ho, hb⟩
    have hc := meMost_any u (degsB n) w1 ho.ints
    rw [← Hml.out] at hc
    have Hc := Lib.hid hc
    have Hs1 : Hid (Since w0 w1) := hb
    obtain ⟨Bu, du, rfl, _⟩ := id ho.ints
    rw [degsB_len] at Hc ⊢
    clear hc ho hb hs0
    go_wp2_with fail
    refine Hc.out.mono ?_
    rintro e w2 ⟨rfl, rfl⟩
    go_wp2
    go_ret
    exact ⟨congrArg (fun q => Ending.returned (.int .i64 q)) HR.out.symm, Since.after Hb0.out Hs1.out⟩
  · have b2 : (r == 2) = false := by rw [beq_eq_false_iff_ne]; exact h2
    by_cases h3 : r = 3
    · subst h3
      have HR : Hid (Y = 2) := by show _ = _; rw [HY.out]; simp [countB]
      clear h2
      go_enter Tryz.func110, Tryz.ntmps110
      go_upto_region 1 with (fail)
      rw [← Hw0.out]
      go_wp2
      go_ret
      exact ⟨congrArg (fun q => Ending.returned (.int .i64 q)) HR.out.symm, Hb0.out⟩
    · have b3 : (r == 3) = false := by rw [beq_eq_false_iff_ne]; exact h3
      by_cases h4 : r = 4
      · subst h4
        obtain ⟨es, hes⟩ := getx n.ends v hv
        obtain ⟨hes6, -⟩ := netOk_row Hn.out hes
        have HR : Hid (Y = (es.length : Int) + 1) := by show _ = _; rw [HY.out]; unfold countB; rw [if_neg (by decide), if_neg (by decide), if_pos rfl, getD_of hes]
        obtain ⟨b, offr, cr, ur, hA1, hkr, hc1, hrow⟩ := row_at H.out.es hes
        cases hA1
        obtain ⟨A1, z1, rfl, hz1, hz2, hA1⟩ := hrow
        unfold maxLen at hz2
        have m1 : IntKind.i64.wrap ((es.length : Int) + 1) = (es.length : Int) + 1 := wr64 _ (by omega) (by omega)
        clear hes hA1 h2 h3
        go_enter Tryz.func110, Tryz.ntmps110
        go_upto_region 1 with (fail)
        rw [← Hw0.out]
        go_wp2
        go_ret
        exact ⟨congrArg (fun q => Ending.returned (.int .i64 q)) HR.out.symm, Hb0.out⟩
      · have b4 : (r == 4) = false := by rw [beq_eq_false_iff_ne]; exact h4
        have HR : Hid (Y = (n.ends.length : Int) + 1) := by show _ = _; rw [HY.out, countB, if_neg h2, if_neg h3, if_neg h4]
        have m1 : IntKind.i64.wrap ((n.ends.length : Int) + 1) = (n.ends.length : Int) + 1 := wr64 _ (by omega) (by omega)
        clear h2 h3 h4
        go_enter Tryz.func110, Tryz.ntmps110
        go_upto_region 1 with (fail)
        rw [← Hw0.out]
        go_wp2
        go_ret
        exact ⟨congrArg (fun q => Ending.returned (.int .i64 q)) HR.out.symm, Hb0.out⟩
end Go.Proofs.YtlfehdikgbgloaaGreat
namespace Go.Proofs.YtlfehdikgbgloaaGreat
open Go.RowKit
theorem countsB_len (n : Net) (r : Int) : (countsB n r).length = n.ends.length := by simp [countsB]
theorem countsB_at {n : Net} {r : Int} {k : Nat} (h : k < n.ends.length) : (countsB n r)[k]? = some (countB n r k) := by simp [countsB, h]
theorem countsB_const {n : Net} {r c : Int} (h : ∀ v, countB n r v = c) : countsB n r = List.replicate n.ends.length c := by
  unfold countsB
  rw [show countB n r = fun _ => c from funext h, List.map_const', List.length_range]
set_option maxRecDepth 100000 in
set_option maxHeartbeats 8000000 in
theorem stateCounts_any (ve vi vn : Value) (n : Net) (r : Int) (w : World) (h : NetIn w ve vi vn n) (hn : netOk n = true) :
    Calls Tryz.prog 117 #[.agg #[ve, vi, vn], .int .i64 r] w fun e w' => ∃ u, e = .returned u ∧ Own w' w.heap.size u (countsB n r) ∧ Below w.heap.size w w' := by
  have hnl := netOk_len hn
  obtain ⟨w0, hw0⟩ : ∃ w0, w0 = (w).alloc (.cells #[ve, vi, vn] 31) := ⟨_, rfl⟩
  have hb0 : Below w.heap.size w w0 := by rw [hw0]; exact ((Below.refl _ _).alloc (by simp) _)
  have H := Lib.hid (h.keep hb0)
  obtain ⟨h1, h2, h3⟩ := h.keep hb0
  obtain ⟨A, c, rfl, hlc, hm, hA⟩ := h1
  obtain ⟨A2, c2, rfl, _, hm2, _⟩ := h2
  obtain ⟨A3, c3, rfl, _, hm3, _⟩ := h3
  unfold maxLen at hm hm2 hm3
  have p00 : ∀ W, Since w0 W → W.cell? ⟨w.heap.size, 0, none⟩ = some (.slice A n.ends.length c) := have_cell (by rw [hw0]; simp)
  have p01 : ∀ W, Since w0 W → W.cell? ⟨w.heap.size, 1, none⟩ = some (.slice A2 n.ids.length c2) := have_cell (by rw [hw0]; simp)
  have p02 : ∀ W, Since w0 W → W.cell? ⟨w.heap.size, 2, none⟩ = some (.slice A3 n.inputs.length c3) := have_cell (by rw [hw0]; simp)
  have Hb0 := Lib.hid hb0
  have Hw0 := Lib.hid hw0
  have HA := Lib.hid hA
  clear hA h
  clear hb0 hw0
  have Hn := Lib.hid hn
  have hmd := most_degs hn
  have hs0 : Since w0 w0 := since_refl _
  obtain ⟨Y, hY⟩ : ∃ Y, Y = countsB n r := ⟨_, rfl⟩
  have HY := Lib.hid hY
  rw [← hY]
  clear hn hY
  by_cases h2 : r = 2
  · subst h2
    obtain ⟨ml, hml⟩ : ∃ ml, ml = mostB (degsB n) := ⟨_, rfl⟩
    rw [← hml] at hmd
    have HR : Hid (Y = List.replicate n.ends.length (ml + 1)) := by show _ = _; rw [HY.out, countsB_const (c := ml + 1) (fun v => by rw [countB, if_pos rfl, ← hml])]
    have Hml := Lib.hid hml
    have m1 : IntKind.i64.wrap (ml + 1) = ml + 1 := wr64 _ (by omega) (by omega)
    clear hml
    go_enter Tryz.func117, Tryz.ntmps117
    go_upto_region 1 with (fail)
    rw [← Hw0.out]
    go_wp2_with fail
    refine (degrees_any _ _ _ n w0 H.out Hn.out).mono ?_
    rintro e w1 ⟨u, rfl, ho, hb⟩
    have hc := maxI_any u (degsB n) w1 ho.ints (by rw [degsB_len]; exact hnl.1) (fun x hx => (degsB_bd Hn.out x hx).1)
    rw [← Hml.out] at hc
    have Hc := Lib.hid hc
    have Hs1 : Hid (Since w0 w1) := hb
    obtain ⟨Bu, du, rfl, _⟩ := id ho.ints
    rw [degsB_len] at Hc ⊢
    clear hc ho hb hs0
    go_wp2_with fail
    refine Hc.out.mono ?_
    rintro e w2 ⟨rfl, rfl⟩
    go_wp2_with fail
    refine (repeat1_any w1.heap.size 1 (ml + 1) n.ends.length _ hnl.1 (by omega) (by simp)).mono ?_
    rintro e w3 ⟨u3, rfl, ho3, hb3⟩
    have Ho3 := Lib.hid (ho3.mono (Nat.le_trans (Nat.le_trans Hb0.out.size Hs1.out.below.size) (by simp)))
    have Hs3 : Hid (Since w0 w3) := Since.after (since_alloc _ Hs1.out) hb3
    clear ho3 hb3
    go_wp2
    go_ret
    exact ⟨_, rfl, by rw [HR.out]; exact Ho3.out, Since.after Hb0.out Hs3.out⟩
  · have b2 : (r == 2) = false := by rw [beq_eq_false_iff_ne]; exact h2
    by_cases h3 : r = 3
    · subst h3
      have HR : Hid (Y = List.replicate n.ends.length 2) := by show _ = _; rw [HY.out, countsB_const (c := 2) (fun v => by simp [countB])]
      clear h2
      go_enter Tryz.func117, Tryz.ntmps117
      go_upto_region 1 with (fail)
      rw [← Hw0.out]
      go_wp2_with fail
      refine (repeat1_any w0.heap.size 1 2 n.ends.length _ hnl.1 (by omega) (by simp)).mono ?_
      rintro e w3 ⟨u3, rfl, ho3, hb3⟩
      have Ho3 := Lib.hid (ho3.mono (Nat.le_trans Hb0.out.size (by simp)))
      have Hs3 : Hid (Since w0 w3) := Since.after (since_alloc _ (since_refl _)) hb3
      clear ho3 hb3 hs0
      go_wp2
      go_ret
      exact ⟨_, rfl, by rw [HR.out]; exact Ho3.out, Since.after Hb0.out Hs3.out⟩
    · have b3 : (r == 3) = false := by rw [beq_eq_false_iff_ne]; exact h3
      by_cases h4 : r = 4
      · subst h4
        have HR : Hid (Y = (degsB n).map (· + 1)) := by
          show _ = _
          rw [HY.out]
          apply List.ext_getElem?
          intro k
          by_cases hk : k < n.ends.length
          · obtain ⟨es, hes⟩ := getx n.ends k hk
            rw [countsB_at hk, List.getElem?_map, degsB_at hes]
            unfold countB
            rw [if_neg (by decide), if_neg (by decide), if_pos rfl, getD_of hes]
            rfl
          · rw [List.getElem?_eq_none (by rw [countsB_len]; omega), List.getElem?_eq_none (by rw [List.length_map, degsB_len]; omega)]
        clear h2 h3
        go_enter Tryz.func117, Tryz.ntmps117
        go_upto_region 1 with (fail)
        rw [← Hw0.out]
        go_wp2_with fail
        refine (degrees_any _ _ _ n w0 H.out Hn.out).mono ?_
        rintro e w1 ⟨u, rfl, ho, hb⟩
        obtain ⟨ds, hds⟩ : ∃ ds, ds = degsB n := ⟨_, rfl⟩
        rw [← hds] at ho
        have Hds := Lib.hid hds
        have Hdl : Hid (ds.length = n.ends.length) := by show _ = _; rw [hds, degsB_len]
        have HI := Lib.hid ho.ints
        have Hs1 : Hid (Since w0 w1) := hb
        obtain ⟨Bu, du, rfl, hdl2, hdm, hdc⟩ := id ho.ints
        unfold maxLen at hdm
        have Hdc := Lib.hid hdc
        clear ho hb hs0 hds hdc
        go_wp2
        go_loopw [6, 32] (fun u i wr => ∃ k : Nat, k ≤ ds.length ∧ i = .int .i64 k ∧ Own wr w1.heap.size u ((ds.take k).map (· + 1)) ∧ Since w1 wr) (fun _ i _ => ds.length - (intOf i).toNat)
        case atStart => exact ⟨0, Nat.zero_le _, rfl, by simpa using own_nil _ w1.heap.size, since_refl _⟩
        case round =>
          obtain ⟨k, hk, rfl, ho, hs⟩ := hrel
          have Ho := Lib.hid ho
          have Hs := Lib.hid hs
          clear ho hs
          by_cases hlt : k < ds.length
          · obtain ⟨x, hx⟩ := getx ds k hlt
            obtain ⟨b, off, rfl, hcell⟩ := Hdc.out k x hx
            have d0 := Hs.out.cell hcell
            have hxb := degsB_bd Hn.out x (by rw [← Hds.out]; exact List.mem_of_getElem? hx)
            have m1 : IntKind.i64.wrap (x + 1) = x + 1 := wr64 _ (by omega) (by omega)
            have Hlen : Hid (((ds.take k).map (· + 1)).length + 1 ≤ 17592186044416) := by show _ ≤ _; rw [List.length_map, List.length_take]; have := Hdl.out; omega
            have E2 : Hid (((ds.take k).map (· + 1)).length = k) := by show _ = _; rw [List.length_map, List.length_take]; omega
            have Hnx : Hid ((ds.take (k + 1)).map (· + 1) = (ds.take k).map (· + 1) ++ [x + 1]) := by show _ = _; rw [take_snoc hx, List.map_append]; rfl
            have m3 : IntKind.i64.wrap ((k : Int) + 1) = (k : Int) + 1 := wr64 _ (by omega) (by omega)
            clear hx hcell
            go_wp2_with (at_builtin; refine app_int_s (w0 := w1) rfl _ _ rfl rfl (Ho.out.since (since_alloc _ (since_refl _))) wr.heap.size (x + 1) rfl (by simp [go_sem]) Hlen.out (since_alloc _ Hs.out) ?_; intro g cc w2 ho2 hs3)
            have Ho2 := Lib.hid ho2
            have Hs2 := Lib.hid hs3
            clear ho2 hs3 d0
            go_wp2
            go_roundw
            case rel => exact ⟨k + 1, by omega, by go_num, by rw [Hnx.out]; have := Ho2.out; first | exact this | (rw [E2.out] at this; exact this) | (rw [List.length_map, List.length_take] at this; exact this), Hs2.out⟩
            case measure => simp [intOf]; omega
          · obtain rfl : k = ds.length := by omega
            go_wp2
            go_ret
            exact ⟨_, rfl, by rw [HR.out, ← Hds.out]; have := Ho.out; rw [List.take_length] at this; exact this.mono (Nat.le_trans Hb0.out.size Hs1.out.below.size), Since.after Hb0.out (Hs1.out.after Hs.out)⟩
      · have b4 : (r == 4) = false := by rw [beq_eq_false_iff_ne]; exact h4
        have HR : Hid (Y = List.replicate n.ends.length ((n.ends.length : Int) + 1)) := by show _ = _; rw [HY.out, countsB_const (c := (n.ends.length : Int) + 1) (fun v => by rw [countB, if_neg h2, if_neg h3, if_neg h4])]
        have m1 : IntKind.i64.wrap ((n.ends.length : Int) + 1) = (n.ends.length : Int) + 1 := wr64 _ (by omega) (by omega)
        clear h2 h3 h4
        go_enter Tryz.func117, Tryz.ntmps117
        go_upto_region 1 with (fail)
        rw [← Hw0.out]
        go_wp2_with fail
        refine (repeat1_any w0.heap.size 1 ((n.ends.length : Int) + 1) n.ends.length _ hnl.1 (by omega) (by simp)).mono ?_
        rintro e w3 ⟨u3, rfl, ho3, hb3⟩
        have Ho3 := Lib.hid (ho3.mono (Nat.le_trans Hb0.out.size (by simp)))
        have Hs3 : Hid (Since w0 w3) := Since.after (since_alloc _ (since_refl _)) hb3
        clear ho3 hb3 hs0
        go_wp2
        go_ret
        exact ⟨_, rfl, by rw [HR.out]; exact Ho3.out, Since.after Hb0.out Hs3.out⟩
def ruleOkB (n : Net) (r : Int) : Bool := netOk n && inB 1 5 r && runsB n r
theorem ruleOk_net {n : Net} {r : Int} (h : (netOk n && inB 1 5 r) = true) : netOk n = true := by simp only [Bool.and_eq_true] at h; exact h.1
set_option maxHeartbeats 4000000 in
theorem ssAsked_any (ve vi vn : Value) (n : Net) (r : Int) (w : World) (h : NetIn w ve vi vn n) (hsz : szNet n ≤ 1048576) :
    Calls Tryz.prog 73 #[.agg #[ve, vi, vn], .int .i64 r] w fun e w' => e = .returned (.bool (ruleOkB n r)) ∧ Below w.heap.size w w' := by
  obtain ⟨w0, hw0⟩ : ∃ w0, w0 = (w).alloc (.cells #[ve, vi, vn] 31) := ⟨_, rfl⟩
  have hb0 : Below w.heap.size w w0 := by rw [hw0]; exact ((Below.refl _ _).alloc (by simp) _)
  have H := Lib.hid (h.keep hb0)
  obtain ⟨h1, h2, h3⟩ := h.keep hb0
  obtain ⟨A, c, rfl, hlc, hm, hA⟩ := h1
  obtain ⟨A2, c2, rfl, _, hm2, _⟩ := h2
  obtain ⟨A3, c3, rfl, _, hm3, _⟩ := h3
  unfold maxLen at hm hm2 hm3
  have p00 : ∀ W, Since w0 W → W.cell? ⟨w.heap.size, 0, none⟩ = some (.slice A n.ends.length c) := have_cell (by rw [hw0]; simp)
  have p01 : ∀ W, Since w0 W → W.cell? ⟨w.heap.size, 1, none⟩ = some (.slice A2 n.ids.length c2) := have_cell (by rw [hw0]; simp)
  have p02 : ∀ W, Since w0 W → W.cell? ⟨w.heap.size, 2, none⟩ = some (.slice A3 n.inputs.length c3) := have_cell (by rw [hw0]; simp)
  have Hb0 := Lib.hid hb0
  have Hw0 := Lib.hid hw0
  have HA := Lib.hid hA
  clear hA h
  clear hb0 hw0
  go_enter Tryz.func73, Tryz.ntmps73
  go_upto_region 1 with (fail)
  rw [← Hw0.out]
  refine wp_region_flow0 12 (Since w0) (since_refl _) ?_
  simp only [List.take_succ_cons, List.take_zero, List.drop_succ_cons, List.drop_zero]
  refine flow_val (v := ?_) rfl ?_ ?_; rotate_left; (intro W hW; go_simp; with_reducible rfl)
  simp only [Act.put, List.setIfInBounds_toArray, List.set_cons_succ, List.set_cons_zero]
  refine flow_op ?_ rfl ?_ ?_; rotate_left; (intro W hW; unfold Gives; go_simp; (with_reducible refine (neGood_any _ _ _ n W (H.out.keep hW.below)).mono ?_); rintro e W' ⟨rfl, hb3⟩; first | (refine ⟨?_, Since.trans hW hb3⟩; with_reducible rfl) | (subst hb3; refine ⟨?_, hW⟩; with_reducible rfl))
  simp only [Act.put, List.setIfInBounds_toArray, List.set_cons_succ, List.set_cons_zero]
  refine flow_val (v := ?_) rfl ?_ ?_; rotate_left; (intro W hW; go_simp; with_reducible rfl)
  simp only [Act.put, List.setIfInBounds_toArray, List.set_cons_succ, List.set_cons_zero]
  refine flow_gval (v := ?_) rfl rfl ?_ ?_; rotate_left; (intro hb W hW; go_simp; with_reducible rfl)
  simp only [Act.put, List.setIfInBounds_toArray, List.set_cons_succ, List.set_cons_zero]
  refine flow_gop (v := ?_) rfl rfl ?_ ?_; rotate_left; (intro hb W hW; unfold Gives; go_simp; (with_reducible refine (ssRule_b _ W).mono ?_); rintro e W' ⟨rfl, hb3⟩; first | (refine ⟨?_, Since.trans hW hb3⟩; with_reducible rfl) | (subst hb3; refine ⟨?_, hW⟩; with_reducible rfl))
  simp only [Act.put, List.setIfInBounds_toArray, List.set_cons_succ, List.set_cons_zero]
  first | refine flow_and rfl rfl ?_ | (refine flow_val (v := ?_) rfl ?_ ?_; rotate_left; (intro W hW; go_simp; with_reducible rfl))
  simp only [Act.put, List.setIfInBounds_toArray, List.set_cons_succ, List.set_cons_zero]
  refine flow_val (v := ?_) rfl ?_ ?_; rotate_left; (intro W hW; go_simp; with_reducible rfl)
  simp only [Act.put, List.setIfInBounds_toArray, List.set_cons_succ, List.set_cons_zero]
  refine flow_gval (v := ?_) rfl rfl ?_ ?_; rotate_left; (intro hb W hW; go_simp; with_reducible rfl)
  simp only [Act.put, List.setIfInBounds_toArray, List.set_cons_succ, List.set_cons_zero]
  refine flow_gval (v := ?_) rfl rfl ?_ ?_; rotate_left; (intro hb W hW; go_simp; with_reducible rfl)
  simp only [Act.put, List.setIfInBounds_toArray, List.set_cons_succ, List.set_cons_zero]
  refine flow_gop (v := ?_) rfl rfl ?_ ?_; rotate_left; (intro hb W hW; unfold Gives; go_simp; (with_reducible refine (ssRuns_any _ _ _ n r W (H.out.keep hW.below) (ruleOk_net (by simpa using hb))).mono ?_); rintro e W' ⟨rfl, hb3⟩; first | (refine ⟨?_, Since.trans hW hb3⟩; with_reducible rfl) | (subst hb3; refine ⟨?_, hW⟩; with_reducible rfl))
  simp only [Act.put, List.setIfInBounds_toArray, List.set_cons_succ, List.set_cons_zero]
  first | refine flow_and rfl rfl ?_ | (refine flow_val (v := ?_) rfl ?_ ?_; rotate_left; (intro W hW; go_simp; with_reducible rfl))
  simp only [Act.put, List.setIfInBounds_toArray, List.set_cons_succ, List.set_cons_zero]
  refine flow_val (v := ?_) rfl ?_ ?_; rotate_left; (intro W hW; go_simp; with_reducible rfl)
  simp only [Act.put, List.setIfInBounds_toArray, List.set_cons_succ, List.set_cons_zero]
  intro W hW
  have HW := Lib.hid hW
  have HR : Hid ((netOk n && inB 1 5 r && runsB n r) = ruleOkB n r) := rfl
  clear hW
  go_wp2
  go_ret
  exact ⟨congrArg (fun b => Ending.returned (.bool b)) HR.out, Since.after Hb0.out HW.out⟩
set_option maxHeartbeats 4000000 in
theorem ruleOk_any (ve vi vn : Value) (n : Net) (r : Int) (w : World) (h : NetIn w ve vi vn n) (hsz : szNet n ≤ 1048576) :
    Calls Tryz.prog 75 #[.agg #[ve, vi, vn], .int .i64 r] w fun e w' => e = .returned (.bool (ruleOkB n r)) ∧ Below w.heap.size w w' := by
  obtain ⟨w0, hw0⟩ : ∃ w0, w0 = (w).alloc (.cells #[ve, vi, vn] 31) := ⟨_, rfl⟩
  have hb0 : Below w.heap.size w w0 := by rw [hw0]; exact ((Below.refl _ _).alloc (by simp) _)
  have H := Lib.hid (h.keep hb0)
  obtain ⟨h1, h2, h3⟩ := h.keep hb0
  obtain ⟨A, c, rfl, hlc, hm, hA⟩ := h1
  obtain ⟨A2, c2, rfl, _, hm2, _⟩ := h2
  obtain ⟨A3, c3, rfl, _, hm3, _⟩ := h3
  unfold maxLen at hm hm2 hm3
  have p00 : ∀ W, Since w0 W → W.cell? ⟨w.heap.size, 0, none⟩ = some (.slice A n.ends.length c) := have_cell (by rw [hw0]; simp)
  have p01 : ∀ W, Since w0 W → W.cell? ⟨w.heap.size, 1, none⟩ = some (.slice A2 n.ids.length c2) := have_cell (by rw [hw0]; simp)
  have p02 : ∀ W, Since w0 W → W.cell? ⟨w.heap.size, 2, none⟩ = some (.slice A3 n.inputs.length c3) := have_cell (by rw [hw0]; simp)
  have Hb0 := Lib.hid hb0
  have Hw0 := Lib.hid hw0
  have HA := Lib.hid hA
  clear hA h
  clear hb0 hw0
  go_enter Tryz.func75, Tryz.ntmps75
  go_upto_region 1 with (fail)
  rw [← Hw0.out]
  refine wp_region_flow0 12 (Since w0) (since_refl _) ?_
  simp only [List.take_succ_cons, List.take_zero, List.drop_succ_cons, List.drop_zero]
  refine flow_val (v := ?_) rfl ?_ ?_; rotate_left; (intro W hW; go_simp; with_reducible rfl)
  simp only [Act.put, List.setIfInBounds_toArray, List.set_cons_succ, List.set_cons_zero]
  refine flow_op ?_ rfl ?_ ?_; rotate_left; (intro W hW; unfold Gives; go_simp; (with_reducible refine (isNetwork_any _ _ _ n W (H.out.keep hW.below) (szNet_ids hsz)).mono ?_); rintro e W' ⟨rfl, hb3⟩; first | (refine ⟨?_, Since.trans hW hb3⟩; with_reducible rfl) | (subst hb3; refine ⟨?_, hW⟩; with_reducible rfl))
  simp only [Act.put, List.setIfInBounds_toArray, List.set_cons_succ, List.set_cons_zero]
  refine flow_val (v := ?_) rfl ?_ ?_; rotate_left; (intro W hW; go_simp; with_reducible rfl)
  simp only [Act.put, List.setIfInBounds_toArray, List.set_cons_succ, List.set_cons_zero]
  refine flow_gval (v := ?_) rfl rfl ?_ ?_; rotate_left; (intro hb W hW; go_simp; with_reducible rfl)
  simp only [Act.put, List.setIfInBounds_toArray, List.set_cons_succ, List.set_cons_zero]
  refine flow_gop (v := ?_) rfl rfl ?_ ?_; rotate_left; (intro hb W hW; unfold Gives; go_simp; (with_reducible refine (isRule_b _ W).mono ?_); rintro e W' ⟨rfl, hb3⟩; first | (refine ⟨?_, Since.trans hW hb3⟩; with_reducible rfl) | (subst hb3; refine ⟨?_, hW⟩; with_reducible rfl))
  simp only [Act.put, List.setIfInBounds_toArray, List.set_cons_succ, List.set_cons_zero]
  first | refine flow_and rfl rfl ?_ | (refine flow_val (v := ?_) rfl ?_ ?_; rotate_left; (intro W hW; go_simp; with_reducible rfl))
  simp only [Act.put, List.setIfInBounds_toArray, List.set_cons_succ, List.set_cons_zero]
  refine flow_val (v := ?_) rfl ?_ ?_; rotate_left; (intro W hW; go_simp; with_reducible rfl)
  simp only [Act.put, List.setIfInBounds_toArray, List.set_cons_succ, List.set_cons_zero]
  refine flow_gval (v := ?_) rfl rfl ?_ ?_; rotate_left; (intro hb W hW; go_simp; with_reducible rfl)
  simp only [Act.put, List.setIfInBounds_toArray, List.set_cons_succ, List.set_cons_zero]
  refine flow_gval (v := ?_) rfl rfl ?_ ?_; rotate_left; (intro hb W hW; go_simp; with_reducible rfl)
  simp only [Act.put, List.setIfInBounds_toArray, List.set_cons_succ, List.set_cons_zero]
  refine flow_gop (v := ?_) rfl rfl ?_ ?_; rotate_left; (intro hb W hW; unfold Gives; go_simp; (with_reducible refine (ruleRuns_any _ _ _ n r W (H.out.keep hW.below) (ruleOk_net (by simpa using hb))).mono ?_); rintro e W' ⟨rfl, hb3⟩; first | (refine ⟨?_, Since.trans hW hb3⟩; with_reducible rfl) | (subst hb3; refine ⟨?_, hW⟩; with_reducible rfl))
  simp only [Act.put, List.setIfInBounds_toArray, List.set_cons_succ, List.set_cons_zero]
  first | refine flow_and rfl rfl ?_ | (refine flow_val (v := ?_) rfl ?_ ?_; rotate_left; (intro W hW; go_simp; with_reducible rfl))
  simp only [Act.put, List.setIfInBounds_toArray, List.set_cons_succ, List.set_cons_zero]
  refine flow_val (v := ?_) rfl ?_ ?_; rotate_left; (intro W hW; go_simp; with_reducible rfl)
  simp only [Act.put, List.setIfInBounds_toArray, List.set_cons_succ, List.set_cons_zero]
  intro W hW
  have HW := Lib.hid hW
  have HR : Hid ((netOk n && inB 1 5 r && runsB n r) = ruleOkB n r) := rfl
  clear hW
  go_wp2
  go_ret
  exact ⟨congrArg (fun b => Ending.returned (.bool b)) HR.out, Since.after Hb0.out HW.out⟩
def fnExactStateCounts_r1 (n : Net) (r : Int) : Bool := ruleOkB n r
def fnExactStateCounts_d (n : Net) (r : Int) : List Int := if ruleOkB n r then countsB n r else []
theorem fnExactStateCounts_dl (n : Net) (r : Int) (hsz : szNet n ≤ 1048576) : (fnExactStateCounts_d n r).length ≤ 4611686018427387904 := by
  unfold fnExactStateCounts_d
  split
  · rw [countsB_len]; unfold szNet szEE at hsz; omega
  · simp
theorem tupub {u : Value} {a b : Bool} (h : a = b) : Ending.returned (.tuple #[u, .bool a]) = .returned (.tuple #[u, .bool b]) := by rw [h]
end Go.Proofs.YtlfehdikgbgloaaGreat
