import Derived.Test.YtlfehdikgbgloaaGreatStabPlain
namespace Go.Proofs.YtlfehdikgbgloaaGreat
open Go.RowKit
def PredE (w0 : World) (fid : FuncId) (caps : Array Value) (p : Int × Int → Bool) (xs : List (Int × Int)) : Prop :=
  ∀ x ∈ xs, ∀ w, Since w0 w → Calls Tryz.prog fid (#[.agg #[.int .i64 x.1, .int .i64 x.2]] ++ caps) w fun e w' => e = .returned (.bool (p x)) ∧ Below w.heap.size w w'
set_option maxHeartbeats 4000000 in
theorem indexFuncE_any (v : Value) (xs : List (Int × Int)) (fid : FuncId) (caps : Array Value) (p : Int × Int → Bool) (w : World) (h : EndS w v xs) (henter : ∀ args w, (callFunc fid args).run Tryz.prog w = .ok (.enter fid args) w) (hp : PredE w fid caps p xs) :
    Calls Tryz.prog 147 #[v, .func (.func fid) #[] caps] w fun e w' => e = .returned (.int .i64 (eidx p xs)) ∧ Below w.heap.size w w' := by
  have H := Lib.hid h
  obtain ⟨A, c, rfl, hlc, hm, hA⟩ := h
  unfold maxLen at hm
  have HA := Lib.hid hA
  clear hA
  have Hp := Lib.hid hp
  have eg := henter
  clear hp
  go_enter Tryz.func147, Tryz.ntmps147
  go_wp2
  go_loopw [8] (fun i wr => ∃ k : Nat, k ≤ xs.length ∧ i = .int .i64 k ∧ (xs.take k).any p = false ∧ Since w wr) (fun i _ => xs.length - (intOf i).toNat)
  case atStart => exact ⟨0, Nat.zero_le _, rfl, rfl, since_refl _⟩
  case round =>
    obtain ⟨k, hk, rfl, hany, hb⟩ := hrel
    have Hany := Lib.hid hany
    have Hb := Lib.hid hb
    clear hany hb
    by_cases hlt : k < xs.length
    · obtain ⟨x, hx⟩ := getx xs k hlt
      obtain ⟨b, off, rfl, hc0, hc1⟩ := HA.out k x hx
      have d0 := Hb.out.cell hc0
      have d1 := Hb.out.cell hc1
      have Hx := Lib.hid hx
      have hcall := Hp.out x (List.mem_of_getElem? hx) wr Hb.out
      obtain ⟨y, hy⟩ : ∃ y, y = p x := ⟨_, rfl⟩
      have Hy := Lib.hid hy
      rw [← hy] at hcall
      have Hcall := Lib.hid hcall
      clear hy hcall hx hc0 hc1
      go_wp2_with fail
      refine Hcall.out.mono ?_
      rintro e w1 ⟨rfl, hb1⟩
      have Hb1 := Lib.hid (Hb.out.trans hb1)
      clear hb1
      cases y
      · go_wp2
        go_roundw
        case rel => exact ⟨k + 1, by omega, by go_num, any_snoc' Hx.out Hany.out Hy.out.symm, Hb1.out⟩
        case measure => simp [intOf]; omega
      · have Hr : Hid (eidx p xs = k) := by show _ = _; unfold eidx; rw [fi_found Hx.out Hy.out.symm Hany.out]
        go_wp2
        go_ret
        exact ⟨congrArg (fun i => Ending.returned (.int .i64 i)) Hr.out.symm, Hb1.out⟩
    · obtain rfl : k = xs.length := by omega
      have Hr : Hid (eidx p xs = -1) := by show _ = _; unfold eidx; rw [fi_none (by have := Hany.out; rwa [List.take_length] at this)]
      go_wp2
      go_ret
      exact ⟨congrArg (fun i => Ending.returned (.int .i64 i)) Hr.out.symm, Hb.out⟩
theorem minB_snoc {xs : List Int} {k : Nat} {x : Int} (hk : 1 ≤ k) (hx : xs[k]? = some x) : minB (xs.take (k + 1)) = min (minB (xs.take k)) x := by
  rw [take_snoc hx]
  match xs, k, hk with
  | [], k + 1, _ => simp at hx
  | y :: ys, k + 1, _ => simp [minB, List.foldl_append]
set_option maxHeartbeats 2000000 in
theorem minI_any (v : Value) (xs : List Int) (w : World) (h : IntS w v xs) (h1 : 1 ≤ xs.length) :
    Calls Tryz.prog 177 #[v] w fun e w' => e = .returned (.int .i64 (minB xs)) ∧ w = w' := by
  obtain ⟨A, c, rfl, hlc, hm, hA⟩ := h
  unfold maxLen at hm
  have HA := Lib.hid hA
  obtain ⟨x0, hx0⟩ := getx xs 0 (by omega)
  obtain ⟨b, off, rfl, hc0⟩ := hA 0 x0 hx0
  rw [Nat.add_zero] at hc0
  have Hst : Hid (minB (xs.take 1) = x0) := by
    show _ = _
    match xs, hx0 with
    | y :: ys, hx0 => simp at hx0; subst hx0; rfl
  have hlt1 : ¬ ((xs.length : Int) < 1) := by omega
  have hpos : 0 < xs.length := by omega
  clear hA hx0
  go_enter Tryz.func177, Tryz.ntmps177
  go_wp2
  go_loopw [3, 4] (fun q i wr => ∃ k : Nat, 1 ≤ k ∧ k ≤ xs.length ∧ i = .int .i64 k ∧ q = .int .i64 (minB (xs.take k)) ∧ wr = w) (fun _ i _ => xs.length - (intOf i).toNat)
  case atStart => exact ⟨1, Nat.le_refl _, h1, rfl, by rw [Hst.out], rfl⟩
  case round =>
    obtain ⟨k, hk1, hk, rfl, rfl, hww⟩ := hrel
    obtain rfl := hww.symm
    clear hww
    by_cases hlt : k < xs.length
    · obtain ⟨x, hx⟩ := getx xs k hlt
      obtain ⟨b', off', hbe, hcell⟩ := HA.out k x hx
      cases hbe
      obtain ⟨q, hq⟩ : ∃ q, q = minB (xs.take k) := ⟨_, rfl⟩
      have Hn : Hid (minB (xs.take (k + 1)) = min q x) := by show _ = _; rw [minB_snoc hk1 hx, hq]
      have m3 : IntKind.i64.wrap ((k : Int) + 1) = (k : Int) + 1 := wr64 _ (by omega) (by omega)
      rw [← hq]
      clear hx hq hc0
      go_wp2
      go_roundw
      case rel => exact ⟨k + 1, by omega, by omega, by go_num, by rw [Hn.out], by first | rfl | trivial⟩
      case measure => simp [intOf]; omega
    · obtain rfl : k = xs.length := by omega
      have Hr : Hid (minB (xs.take xs.length) = minB xs) := by show _ = _; rw [List.take_length]
      go_wp2
      go_ret
      exact ⟨congrArg (fun q => Ending.returned (.int .i64 q)) Hr.out, rfl⟩
set_option maxHeartbeats 2000000 in
theorem leastFree_any (v : Value) (xs : List Int) (w : World) (h : IntS w v xs) :
    Calls Tryz.prog 120 #[v] w fun e w' => e = .returned (.int .i64 (leastB xs)) ∧ w = w' := by
  have H := Lib.hid h
  obtain ⟨A, c, rfl, hlc, hm, hA⟩ := h
  unfold maxLen at hm
  clear hA
  go_enter Tryz.func120, Tryz.ntmps120
  go_wp2
  go_loopw [3] (fun q wr => ∃ k : Nat, k ≤ xs.length ∧ q = .int .i64 k ∧ (∀ j, j < k → hasB xs (j : Nat) = true) ∧ wr = w) (fun q _ => xs.length + 1 - (intOf q).toNat)
  case atStart => exact ⟨0, Nat.zero_le _, rfl, fun j hj => absurd hj (Nat.not_lt_zero _), rfl⟩
  case round =>
    obtain ⟨k, hk, rfl, hall, hww⟩ := hrel
    obtain rfl := hww.symm
    have Hall := Lib.hid hall
    clear hww hall
    have hcall := containsI_any _ xs (k : Int) w H.out
    obtain ⟨y, hy⟩ : ∃ y, y = hasB xs (k : Int) := ⟨_, rfl⟩
    rw [← hy] at hcall
    have Hy := Lib.hid hy
    have Hcall := Lib.hid hcall
    clear hy hcall
    go_wp2_with fail
    refine Hcall.out.mono ?_
    rintro e w1 ⟨rfl, rfl⟩
    cases y
    · have Hr : Hid (leastB xs = k) := leastB_eq Hall.out Hy.out.symm
      go_wp2
      go_ret
      exact ⟨congrArg (fun q => Ending.returned (.int .i64 q)) Hr.out.symm, rfl⟩
    · have Hn : Hid (∀ j, j < k + 1 → hasB xs (j : Nat) = true) := fun j hj => by
        rcases Nat.lt_succ_iff_lt_or_eq.1 hj with h | rfl
        · exact Hall.out j h
        · exact Hy.out.symm
      have hkl : k + 1 ≤ xs.length := pigeonB Hn.out
      have m3 : IntKind.i64.wrap ((k : Int) + 1) = (k : Int) + 1 := wr64 _ (by omega) (by omega)
      go_wp2
      go_roundw
      case rel => exact ⟨k + 1, hkl, by go_num, Hn.out, by first | rfl | trivial⟩
      case measure => simp [intOf]; omega
set_option maxHeartbeats 2000000 in
theorem clLeast_any (v : Value) (xs : List Int) (w : World) (h : IntS w v xs) :
    Calls Tryz.prog 114 #[v] w fun e w' => e = .returned (.int .i64 (leastB xs)) ∧ w = w' := by
  have H := Lib.hid h
  obtain ⟨A, c, rfl, hlc, hm, hA⟩ := h
  unfold maxLen at hm
  clear hA
  go_enter Tryz.func114, Tryz.ntmps114
  go_wp2
  go_loopw [3] (fun q wr => ∃ k : Nat, k ≤ xs.length ∧ q = .int .i64 k ∧ (∀ j, j < k → hasB xs (j : Nat) = true) ∧ wr = w) (fun q _ => xs.length + 1 - (intOf q).toNat)
  case atStart => exact ⟨0, Nat.zero_le _, rfl, fun j hj => absurd hj (Nat.not_lt_zero _), rfl⟩
  case round =>
    obtain ⟨k, hk, rfl, hall, hww⟩ := hrel
    obtain rfl := hww.symm
    have Hall := Lib.hid hall
    clear hww hall
    have hcall := l1Has_any _ xs (k : Int) w H.out
    obtain ⟨y, hy⟩ : ∃ y, y = hasB xs (k : Int) := ⟨_, rfl⟩
    rw [← hy] at hcall
    have Hy := Lib.hid hy
    have Hcall := Lib.hid hcall
    clear hy hcall
    go_wp2_with fail
    refine Hcall.out.mono ?_
    rintro e w1 ⟨rfl, rfl⟩
    cases y
    · have Hr : Hid (leastB xs = k) := leastB_eq Hall.out Hy.out.symm
      go_wp2
      go_ret
      exact ⟨congrArg (fun q => Ending.returned (.int .i64 q)) Hr.out.symm, rfl⟩
    · have Hn : Hid (∀ j, j < k + 1 → hasB xs (j : Nat) = true) := fun j hj => by
        rcases Nat.lt_succ_iff_lt_or_eq.1 hj with h | rfl
        · exact Hall.out j h
        · exact Hy.out.symm
      have hkl : k + 1 ≤ xs.length := pigeonB Hn.out
      have m3 : IntKind.i64.wrap ((k : Int) + 1) = (k : Int) + 1 := wr64 _ (by omega) (by omega)
      go_wp2
      go_roundw
      case rel => exact ⟨k + 1, hkl, by go_num, Hn.out, by first | rfl | trivial⟩
      case measure => simp [intOf]; omega
theorem l1Least_any (a b : Int) (w : World) : Calls Tryz.prog 113 #[.int .i64 a, .int .i64 b] w fun e w' => e = .returned (.int .i64 (least1 a b)) ∧ w = w' := by
  by_cases h : a < b
  · have hr : Hid (least1 a b = a) := if_pos h
    go_enter Tryz.func113, Tryz.ntmps113
    go_wp2
    go_ret
    exact ⟨congrArg (fun q => Ending.returned (.int .i64 q)) hr.out.symm, rfl⟩
  · have hr : Hid (least1 a b = b) := if_neg h
    go_enter Tryz.func113, Tryz.ntmps113
    go_wp2
    go_ret
    exact ⟨congrArg (fun q => Ending.returned (.int .i64 q)) hr.out.symm, rfl⟩
end Go.Proofs.YtlfehdikgbgloaaGreat
namespace Go.Proofs.YtlfehdikgbgloaaGreat
open Go.RowKit
theorem inp_at {w : World} {ve vi vn : Value} {n : Net} (h : NetIn w ve vi vn n) (hn : netOk n = true) {v : Nat} (hv : v < n.ends.length) :
    ∃ b off c, vn = .slice (some ⟨b, off, none⟩) n.inputs.length c ∧ v < n.inputs.length ∧ w.cell? ⟨b, off + v, none⟩ = some (.int .i64 (n.inputs.getD v 0)) := by
  have hi := lt_of_get (node_at hn hv).2.2.2.2
  obtain ⟨k, b, off, c, y, e0, hvn, hk, -, hg, hc⟩ := lab_at h.2.2 (x := (v : Int)) (by omega) (by omega)
  obtain rfl : v = k := by omega
  rw [Int.toNat_natCast] at hg
  exact ⟨b, off, c, hvn, hi, by rw [hg]; exact hc⟩
theorem minB_bd {xs : List Int} (h1 : 1 ≤ xs.length) (h : ∀ x ∈ xs, 0 ≤ x ∧ x ≤ 40) : 0 ≤ minB xs ∧ minB xs ≤ 40 := by
  have key : ∀ (xs : List Int) (a : Int), 0 ≤ a → a ≤ 40 → (∀ x ∈ xs, 0 ≤ x ∧ x ≤ 40) → 0 ≤ xs.foldl min a ∧ xs.foldl min a ≤ 40 := by
    intro xs
    induction xs with
    | nil => intro a h0 h1 _; exact ⟨h0, h1⟩
    | cons y ys ih => intro a h0 h1 h; have := h y (by simp); exact ih (min a y) (by omega) (by omega) (fun x hx => h x (List.mem_cons_of_mem _ hx))
  match xs, h1 with
  | x :: xs, _ => exact key xs x (h x (by simp)).1 (h x (by simp)).2 (fun y hy => h y (List.mem_cons_of_mem _ hy))
theorem rowOf_le {n : Net} {r : Int} {ls : List Int} (hs : SitP n r ls) {v : Nat} (hv : v < n.ends.length) : (rowOf n v).length ≤ 1000000 := by have := (hs.row hv).2.1; omega
set_option maxHeartbeats 4000000 in
theorem nextTree_any (ve vi vn vl : Value) (n : Net) (r : Int) (ls : List Int) (v : Nat) (w : World) (h : NetIn w ve vi vn n) (hl : IntS w vl ls) (hs : SitP n r ls) (hv : v < n.ends.length) :
    Calls Tryz.prog 119 #[.agg #[ve, vi, vn], vl, .int .i64 v] w fun e w' => e = .returned (.int .i64 (treeB n ls v)) ∧ Below w.heap.size w w' := by
  have hnl := netOk_len hs.net
  obtain ⟨w0, hw0⟩ : ∃ w0, w0 = (w).alloc (.cells #[ve, vi, vn] 31) := ⟨_, rfl⟩
  have hb0 : Below w.heap.size w w0 := by rw [hw0]; exact ((Below.refl _ _).alloc (by simp) _)
  have H := Lib.hid (h.keep hb0)
  obtain ⟨h1, h2, h3⟩ := h.keep hb0
  obtain ⟨A, c, rfl, hlc, hm, hA⟩ := h1
  obtain ⟨A2, c2, rfl, _, hm2, _⟩ := h2
  obtain ⟨A3, c3, rfl, _, hm3, _⟩ := h3
  unfold maxLen at hm hm2 hm3
  have p00 : ∀ W, Since w0 W → W.cell? ⟨w.heap.size, 0, none⟩ = some (.slice A n.ends.length c) := have_cell (by rw [hw0]; simp)
  have p01 : ∀ W, Since w0 W → W.cell? ⟨w.heap.size, 1, none⟩ = some (.slice A2 n.ids.length c2) := have_cell (by rw [hw0]; simp)
  have p02 : ∀ W, Since w0 W → W.cell? ⟨w.heap.size, 2, none⟩ = some (.slice A3 n.inputs.length c3) := have_cell (by rw [hw0]; simp)
  have Hb0 := Lib.hid hb0
  have Hw0 := Lib.hid hw0
  have HA := Lib.hid hA
  clear hA h
  clear hb0 hw0
  have HL := Lib.hid (hl.keep Hb0.out)
  obtain ⟨row1, row2, row3⟩ := hs.row hv
  have hle := rowOf_le hs hv
  have Hnr := Lib.hid (hs.near hv)
  have Hin := Lib.hid (show ∀ e ∈ rowOf n v, 0 ≤ e.1 ∧ e.1 < ls.length from fun e he => (row3 e he).1)
  obtain ⟨bi, oi, ci, hvi, hil, hci⟩ := inp_at H.out hs.net hv
  cases hvi
  have ti := have_cell hci
  obtain ⟨xi, hxi⟩ : ∃ x, x = n.inputs.getD v 0 := ⟨_, rfl⟩
  rw [← hxi] at ti
  obtain ⟨ds, hds⟩ : ∃ ds, ds = nearB ls (rowOf n v) := ⟨_, rfl⟩
  have hcall := near_any _ _ _ _ n ls v (rowOf n v) w0 H.out HL.out row1 hle Hin.out
  rw [← hds] at hcall Hnr
  have Hcall := Lib.hid hcall
  have HR : Hid (treeB n ls v = if xi = 1 then 0 else ds.foldl treeStep (n.ends.length : Int)) := by show _ = _; unfold treeB; rw [← hxi, ← hds]
  have Hdl : Hid (ds.length ≤ 6) := by show _ ≤ _; rw [hds]; simpa [nearB] using row2
  clear row1 row2 row3 hle hci hcall hds hxi hs hl
  go_enter Tryz.func119, Tryz.ntmps119
  go_upto_region 1 with (fail)
  rw [← Hw0.out]
  have hs0 : Since w0 w0 := since_refl _
  go_wp2_with fail
  refine Hcall.out.mono ?_
  rintro e w1 ⟨u, rfl, ho, hb⟩
  have hs1 : Since w0 w1 := hb
  clear hs0 hb
  cases hx1 : (xi == 1)
  · have HR2 : Hid (treeB n ls v = ds.foldl treeStep (n.ends.length : Int)) := by show _ = _; rw [HR.out, if_neg (by simpa using hx1)]
    rcases ho.cases with ⟨rfl, e1⟩ | ⟨g, c1, rfl, hg1, hg2⟩
    · subst e1
      clear ho
      go_wp2
      go_ret
      exact ⟨congrArg (fun q => Ending.returned (.int .i64 q)) HR2.out.symm, Since.after Hb0.out hs1⟩
    · have hi := ho.ints
      have Hi := Lib.hid hi
      by_cases h0 : ds.length = 0
      · obtain rfl : ds = [] := List.length_eq_zero_iff.1 h0
        clear ho hi hg1 hg2 h0
        go_wp2
        go_ret
        exact ⟨congrArg (fun q => Ending.returned (.int .i64 q)) HR2.out.symm, Since.after Hb0.out hs1⟩
      · have hpos : 1 ≤ ds.length := by omega
        have hm := minI_any _ ds w1 hi hpos
        obtain ⟨q, hq⟩ : ∃ q, q = minB ds := ⟨_, rfl⟩
        rw [← hq] at hm
        have Hm := Lib.hid hm
        have hqb : 0 ≤ q ∧ q ≤ 40 := by rw [hq]; exact minB_bd hpos Hnr.out
        have HR3 : Hid (treeB n ls v = min (q + 1) (n.ends.length : Int)) := by
          show _ = _
          rw [HR2.out, tree_min (fun e => by rw [e] at hpos; simp at hpos), ← hq]; exact Int.min_comm _ _
        have m1 : IntKind.i64.wrap (q + 1) = q + 1 := wr64 _ (by omega) (by omega)
        have hl0 : ((ds.length : Int) == 0) = false := beq_eq_false_iff_ne.2 (by omega)
        have Hq := Lib.hid hq
        clear ho hi hm hg1 hg2 h0 hq
        go_wp2_with fail
        refine Hm.out.mono ?_
        rintro e w2 ⟨rfl, rfl⟩
        go_wp2
        go_ret
        exact ⟨congrArg (fun q => Ending.returned (.int .i64 q)) HR3.out.symm, Since.after Hb0.out hs1⟩
  · have HR2 : Hid (treeB n ls v = 0) := by show _ = _; rw [HR.out, if_pos (by simpa using hx1)]
    have Ho := Lib.hid ho
    clear ho
    go_wp2
    go_ret
    exact ⟨congrArg (fun q => Ending.returned (.int .i64 q)) HR2.out.symm, Since.after Hb0.out hs1⟩
-- the token
set_option maxHeartbeats 4000000 in
theorem nextToken_any (ve vi vn vl : Value) (n : Net) (ls : List Int) (v : Nat) (w : World) (h : NetIn w ve vi vn n) (hl : IntS w vl ls) (hs : SitP n 5 ls) (hv : v < n.ends.length) :
    Calls Tryz.prog 123 #[.agg #[ve, vi, vn], vl, .int .i64 v] w fun e w' => e = .returned (.int .i64 (tokenB n ls v)) ∧ Below w.heap.size w w' := by
  have hnl := netOk_len hs.net
  obtain ⟨w0, hw0⟩ : ∃ w0, w0 = (w).alloc (.cells #[ve, vi, vn] 31) := ⟨_, rfl⟩
  have hb0 : Below w.heap.size w w0 := by rw [hw0]; exact ((Below.refl _ _).alloc (by simp) _)
  have H := Lib.hid (h.keep hb0)
  obtain ⟨h1, h2, h3⟩ := h.keep hb0
  obtain ⟨A, c, rfl, hlc, hm, hA⟩ := h1
  obtain ⟨A2, c2, rfl, _, hm2, _⟩ := h2
  obtain ⟨A3, c3, rfl, _, hm3, _⟩ := h3
  unfold maxLen at hm hm2 hm3
  have p00 : ∀ W, Since w0 W → W.cell? ⟨w.heap.size, 0, none⟩ = some (.slice A n.ends.length c) := have_cell (by rw [hw0]; simp)
  have p01 : ∀ W, Since w0 W → W.cell? ⟨w.heap.size, 1, none⟩ = some (.slice A2 n.ids.length c2) := have_cell (by rw [hw0]; simp)
  have p02 : ∀ W, Since w0 W → W.cell? ⟨w.heap.size, 2, none⟩ = some (.slice A3 n.inputs.length c3) := have_cell (by rw [hw0]; simp)
  have Hb0 := Lib.hid hb0
  have Hw0 := Lib.hid hw0
  have HA := Lib.hid hA
  clear hA h
  clear hb0 hw0
  have HL := Lib.hid (hl.keep Hb0.out)
  obtain ⟨row1, row2, row3⟩ := hs.row hv
  obtain ⟨es, hes⟩ : ∃ es, es = rowOf n v := ⟨_, rfl⟩
  have h2 := hs.ring hv
  have hst := hs.st v hv
  have hll := hs.len
  have hcb := countB_le hs.net (r := 5) hv
  rw [← hes] at row1 row3 h2
  obtain ⟨bi, oi, ci, hvi, hil, hci⟩ := inp_at H.out hs.net hv
  cases hvi
  have ti := have_cell hci
  obtain ⟨xi, hxi⟩ : ∃ x, x = n.inputs.getD v 0 := ⟨_, rfl⟩
  rw [← hxi] at ti
  obtain ⟨b, offr, cr, ur, hA1, hkr, hc1, hrow⟩ := row_at H.out.es row1
  cases hA1
  have tr := have_cell hc1
  obtain ⟨A1, z1, rfl, hz1, hz2, hA1⟩ := hrow
  unfold maxLen at hz2
  obtain ⟨⟨x1, x2⟩, hx⟩ := getx es 1 (by omega)
  obtain ⟨b1, off1, rfl, hd1, hd2⟩ := hA1 1 _ hx
  have t1 := have_cell hd1
  obtain ⟨⟨i1, i2⟩, -⟩ := row3 _ (List.mem_of_getElem? hx)
  simp only at i1 i2
  obtain ⟨m1', bl, ol, cl, y, rfl, hvl, hm1, hg0, hg1, hd3⟩ := lab_at HL.out i1 i2
  cases hvl
  have t3 := have_cell hd3
  obtain ⟨m2', bl', ol', cl', s, e0, hvl2, hm2, hg0', hg1', hd4⟩ := lab_at HL.out (x := (v : Int)) (by omega) (by omega)
  cases hvl2
  obtain rfl : v = m2' := by omega
  have t4 := have_cell hd4
  rw [Int.toNat_natCast] at hg1'
  rw [hg1'] at hst
  have HB : Hid (beforeB n ls v = y) := by show _ = _; unfold beforeB; rw [← hes, getD_of hx]; exact hg1
  have HR : Hid (tokenB n ls v = if xi = 1 then (if s = y then (s + 1) % ((n.ends.length : Int) + 1) else s) else y) := by show _ = _; unfold tokenB; rw [HB.out, ← hxi, hg1']
  clear row1 row3 hx hd1 hd2 hd3 hd4 hg0 hg1 hg0' hg1' hA1 hes hci hxi hs hl e0 hc1
  have m1 : IntKind.i64.wrap (s + 1) = s + 1 := wr64 _ (by omega) (by omega)
  have m2 : IntKind.i64.wrap ((n.ends.length : Int) + 1) = (n.ends.length : Int) + 1 := wr64 _ (by omega) (by omega)
  have hs0 : Since w0 w0 := since_refl _
  have hlt2 : 1 < es.length := by omega
  have hz0 : ((n.ends.length : Int) + 1 = 0) = False := by simp; omega
  go_enter Tryz.func123, Tryz.ntmps123
  go_upto_region 1 with (fail)
  rw [← Hw0.out]
  cases hx1 : (xi == 1)
  · have HR2 : Hid (tokenB n ls v = y) := by show _ = _; rw [HR.out, if_neg (by simpa using hx1)]
    have hx1' : (xi != 1) = true := by simp [bne, hx1]
    clear hx1
    go_wp2
    go_ret
    exact ⟨congrArg (fun q => Ending.returned (.int .i64 q)) HR2.out.symm, Hb0.out⟩
  · have hx1' : (xi != 1) = false := by simp [bne, hx1]
    cases hy : (s == y)
    · have HR2 : Hid (tokenB n ls v = s) := by show _ = _; rw [HR.out, if_pos (by simpa using hx1), if_neg (by simpa using hy)]
      have hy' : (s != y) = true := by simp [bne, hy]
      clear hx1 hy
      go_wp2
      go_ret
      exact ⟨congrArg (fun q => Ending.returned (.int .i64 q)) HR2.out.symm, Hb0.out⟩
    · have hy' : (s != y) = false := by simp [bne, hy]
      have HR2 : Hid (tokenB n ls v = Int.tmod (s + 1) ((n.ends.length : Int) + 1)) := by
        show _ = _
        rw [HR.out, if_pos (by simpa using hx1), if_pos (by simpa using hy), Int.tmod_eq_emod_of_nonneg (by omega)]
      clear hx1 hy
      go_upto_region 6 with (fail)
      refine wp_region_flow 11 (Since w0) (by kernel_rfl) (by kernel_rfl) (by simp) (since_drew (since_refl _)) ?_
      simp only [List.take_succ_cons, List.take_zero, List.drop_succ_cons, List.drop_zero]
      refine flow_val (v := ?_) rfl ?_ ?_; rotate_left; (intro W hW; go_simp; with_reducible rfl)
      simp only [Act.put, List.setIfInBounds_toArray, List.set_cons_succ, List.set_cons_zero]
      refine flow_val (v := ?_) rfl ?_ ?_; rotate_left; (intro W hW; go_simp; with_reducible rfl)
      simp only [Act.put, List.setIfInBounds_toArray, List.set_cons_succ, List.set_cons_zero]
      refine flow_val (v := ?_) rfl ?_ ?_; rotate_left; (intro W hW; go_simp; with_reducible rfl)
      simp only [Act.put, List.setIfInBounds_toArray, List.set_cons_succ, List.set_cons_zero]
      refine flow_val (v := ?_) rfl ?_ ?_; rotate_left; (intro W hW; go_simp; with_reducible rfl)
      simp only [Act.put, List.setIfInBounds_toArray, List.set_cons_succ, List.set_cons_zero]
      refine flow_val (v := ?_) rfl ?_ ?_; rotate_left; (intro W hW; go_simp; with_reducible rfl)
      simp only [Act.put, List.setIfInBounds_toArray, List.set_cons_succ, List.set_cons_zero]
      refine flow_val (v := ?_) rfl ?_ ?_; rotate_left; (intro W hW; go_simp; with_reducible rfl)
      simp only [Act.put, List.setIfInBounds_toArray, List.set_cons_succ, List.set_cons_zero]
      refine flow_val (v := ?_) rfl ?_ ?_; rotate_left; (intro W hW; go_simp; with_reducible rfl)
      simp only [Act.put, List.setIfInBounds_toArray, List.set_cons_succ, List.set_cons_zero]
      refine flow_val (v := ?_) rfl ?_ ?_; rotate_left; (intro W hW; go_simp; with_reducible rfl)
      simp only [Act.put, List.setIfInBounds_toArray, List.set_cons_succ, List.set_cons_zero]
      refine flow_val (v := ?_) rfl ?_ ?_; rotate_left; (intro W hW; go_simp; with_reducible rfl)
      simp only [Act.put, List.setIfInBounds_toArray, List.set_cons_succ, List.set_cons_zero]
      refine flow_val (v := ?_) rfl ?_ ?_; rotate_left; (intro W hW; go_simp; with_reducible rfl)
      simp only [Act.put, List.setIfInBounds_toArray, List.set_cons_succ, List.set_cons_zero]
      refine flow_val (v := ?_) rfl ?_ ?_; rotate_left; (intro W hW; go_simp; with_reducible rfl)
      simp only [Act.put, List.setIfInBounds_toArray, List.set_cons_succ, List.set_cons_zero]
      intro W hW
      have HW := Lib.hid hW
      clear hW
      go_wp2
      go_ret
      exact ⟨congrArg (fun q => Ending.returned (.int .i64 q)) HR2.out.symm, Since.after Hb0.out HW.out⟩
-- the matching
theorem nm1_ent : ∀ args w, (callFunc 178 args).run Tryz.prog w = .ok (.enter 178 args) w := enters_of Tryz.func178 (by kernel_rfl) rfl
theorem nm2_ent : ∀ args w, (callFunc 179 args).run Tryz.prog w = .ok (.enter 179 args) w := enters_of Tryz.func179 (by kernel_rfl) rfl
set_option maxHeartbeats 2000000 in
theorem nm1_any (x1 x2 : Int) (vl : Value) (ls : List Int) (bs : Nat) (w : World) (hl : IntS w vl ls) (hc : w.cell? ⟨bs, 0, none⟩ = some vl) (i1 : 0 ≤ x1) (i2 : x1 < ls.length) (hx2 : 0 ≤ x2 ∧ x2 ≤ 5) :
    Calls Tryz.prog 178 #[.agg #[.int .i64 x1, .int .i64 x2], .pointer (some ⟨bs, 0, none⟩)] w fun e w' => e = .returned (.bool (wantB ls (x1, x2))) ∧ Below w.heap.size w w' := by
  obtain ⟨_, _, hv0, _, hmL, _⟩ := id hl
  obtain ⟨m1', bl, ol, cl, y, rfl, rfl, hm1, hg0, hg1, hd3⟩ := lab_at hl i1 i2
  cases hv0
  unfold maxLen at hmL
  obtain ⟨w0, hw0⟩ : ∃ w0, w0 = w.alloc (.cells #[.int .i64 m1', .int .i64 x2] 96) := ⟨_, rfl⟩
  have hb0 : Below w.heap.size w w0 := by rw [hw0]; exact (Below.refl _ _).alloc (by simp) _
  have q0 : ∀ W, Since w0 W → W.cell? ⟨w.heap.size, 0, none⟩ = some (.int .i64 m1') := have_cell (by rw [hw0]; simp)
  have q1 : ∀ W, Since w0 W → W.cell? ⟨w.heap.size, 1, none⟩ = some (.int .i64 x2) := have_cell (by rw [hw0]; simp)
  have t3 := have_cell (bc hb0 hd3)
  have tc := have_cell (bc hb0 hc)
  have HR : Hid (wantB ls ((m1' : Int), x2) = (y == x2 + 1)) := by show _ = _; unfold wantB; rw [hg1]
  have Hb0 := Lib.hid hb0
  have Hw0 := Lib.hid hw0
  have m1 : IntKind.i64.wrap (x2 + 1) = x2 + 1 := wr64 _ (by omega) (by omega)
  clear hb0 hw0 hl hc hg0 hg1 hd3
  go_enter Tryz.func178, Tryz.ntmps178
  go_upto_region 1 with (fail)
  rw [← Hw0.out]
  refine wp_region_flow 10 (Since w0) (by kernel_rfl) (by kernel_rfl) (by simp) (since_drew (since_refl _)) ?_
  simp only [List.take_succ_cons, List.take_zero, List.drop_succ_cons, List.drop_zero]
  refine flow_val (v := ?_) rfl ?_ ?_; rotate_left; (intro W hW; go_simp; with_reducible rfl)
  simp only [Act.put, List.setIfInBounds_toArray, List.set_cons_succ, List.set_cons_zero]
  refine flow_val (v := ?_) rfl ?_ ?_; rotate_left; (intro W hW; go_simp; with_reducible rfl)
  simp only [Act.put, List.setIfInBounds_toArray, List.set_cons_succ, List.set_cons_zero]
  refine flow_val (v := ?_) rfl ?_ ?_; rotate_left; (intro W hW; go_simp; with_reducible rfl)
  simp only [Act.put, List.setIfInBounds_toArray, List.set_cons_succ, List.set_cons_zero]
  refine flow_val (v := ?_) rfl ?_ ?_; rotate_left; (intro W hW; go_simp; with_reducible rfl)
  simp only [Act.put, List.setIfInBounds_toArray, List.set_cons_succ, List.set_cons_zero]
  refine flow_val (v := ?_) rfl ?_ ?_; rotate_left; (intro W hW; go_simp; with_reducible rfl)
  simp only [Act.put, List.setIfInBounds_toArray, List.set_cons_succ, List.set_cons_zero]
  refine flow_val (v := ?_) rfl ?_ ?_; rotate_left; (intro W hW; go_simp; with_reducible rfl)
  simp only [Act.put, List.setIfInBounds_toArray, List.set_cons_succ, List.set_cons_zero]
  refine flow_val (v := ?_) rfl ?_ ?_; rotate_left; (intro W hW; go_simp; with_reducible rfl)
  simp only [Act.put, List.setIfInBounds_toArray, List.set_cons_succ, List.set_cons_zero]
  refine flow_val (v := ?_) rfl ?_ ?_; rotate_left; (intro W hW; go_simp; with_reducible rfl)
  simp only [Act.put, List.setIfInBounds_toArray, List.set_cons_succ, List.set_cons_zero]
  refine flow_val (v := ?_) rfl ?_ ?_; rotate_left; (intro W hW; go_simp; with_reducible rfl)
  simp only [Act.put, List.setIfInBounds_toArray, List.set_cons_succ, List.set_cons_zero]
  refine flow_val (v := ?_) rfl ?_ ?_; rotate_left; (intro W hW; go_simp; with_reducible rfl)
  simp only [Act.put, List.setIfInBounds_toArray, List.set_cons_succ, List.set_cons_zero]
  intro W hW
  have HW := Lib.hid hW
  clear hW
  go_wp2
  go_ret
  exact ⟨congrArg (fun b => Ending.returned (.bool b)) HR.out.symm, Since.after Hb0.out HW.out⟩
set_option maxHeartbeats 2000000 in
theorem nm2_any (x1 x2 : Int) (vl : Value) (ls : List Int) (bs : Nat) (w : World) (hl : IntS w vl ls) (hc : w.cell? ⟨bs, 0, none⟩ = some vl) (i1 : 0 ≤ x1) (i2 : x1 < ls.length) :
    Calls Tryz.prog 179 #[.agg #[.int .i64 x1, .int .i64 x2], .pointer (some ⟨bs, 0, none⟩)] w fun e w' => e = .returned (.bool (freeB ls (x1, x2))) ∧ Below w.heap.size w w' := by
  obtain ⟨_, _, hv0, _, hmL, _⟩ := id hl
  obtain ⟨m1', bl, ol, cl, y, rfl, rfl, hm1, hg0, hg1, hd3⟩ := lab_at hl i1 i2
  cases hv0
  unfold maxLen at hmL
  obtain ⟨w0, hw0⟩ : ∃ w0, w0 = w.alloc (.cells #[.int .i64 m1', .int .i64 x2] 96) := ⟨_, rfl⟩
  have hb0 : Below w.heap.size w w0 := by rw [hw0]; exact (Below.refl _ _).alloc (by simp) _
  have q0 : ∀ W, Since w0 W → W.cell? ⟨w.heap.size, 0, none⟩ = some (.int .i64 m1') := have_cell (by rw [hw0]; simp)
  have t3 := have_cell (bc hb0 hd3)
  have tc := have_cell (bc hb0 hc)
  have HR : Hid (freeB ls ((m1' : Int), x2) = (y == 0)) := by show _ = _; unfold freeB; rw [hg1]
  have Hb0 := Lib.hid hb0
  have Hw0 := Lib.hid hw0
  clear hb0 hw0 hl hc hg0 hg1 hd3
  go_enter Tryz.func179, Tryz.ntmps179
  go_upto_region 1 with (fail)
  rw [← Hw0.out]
  have hs0 : Since w0 w0 := since_refl _
  go_wp2
  go_ret
  exact ⟨congrArg (fun b => Ending.returned (.bool b)) HR.out.symm, Hb0.out⟩
end Go.Proofs.YtlfehdikgbgloaaGreat
namespace Go.Proofs.YtlfehdikgbgloaaGreat
open Go.RowKit
set_option maxRecDepth 100000 in
set_option maxHeartbeats 1600000 in
theorem nextMatching_any (ve vi vn vl : Value) (n : Net) (ls : List Int) (v : Nat) (w : World) (h : NetIn w ve vi vn n) (hl : IntS w vl ls) (hs : SitP n 4 ls) (hv : v < n.ends.length) :
    Calls Tryz.prog 122 #[.agg #[ve, vi, vn], vl, .int .i64 v] w fun e w' => e = .returned (.int .i64 (matchB ls (rowOf n v) (ls.getD v 0))) ∧ Below w.heap.size w w' := by
  have HL0 := Lib.hid hl
  obtain ⟨AL, cL, rfl, hlL, hmL, _⟩ := hl
  unfold maxLen at hmL
  have hnl := netOk_len hs.net
  obtain ⟨w0, hw0⟩ : ∃ w0, w0 = ((w).alloc (.cells #[ve, vi, vn] 31)).alloc (.cells #[.slice AL ls.length cL] 23) := ⟨_, rfl⟩
  have hb0 : Below w.heap.size w w0 := by rw [hw0]; exact (((Below.refl _ _).alloc (by simp <;> omega) _).alloc (by simp <;> omega) _)
  have H := Lib.hid (h.keep hb0)
  obtain ⟨h1, h2, h3⟩ := h.keep hb0
  obtain ⟨A, c, rfl, hlc, hm, hA⟩ := h1
  obtain ⟨A2, c2, rfl, _, hm2, _⟩ := h2
  obtain ⟨A3, c3, rfl, _, hm3, _⟩ := h3
  unfold maxLen at hm hm2 hm3
  have p00 : ∀ W, Since w0 W → W.cell? ⟨w.heap.size, 0, none⟩ = some (.slice A n.ends.length c) := have_cell (by rw [hw0]; simp)
  have p01 : ∀ W, Since w0 W → W.cell? ⟨w.heap.size, 1, none⟩ = some (.slice A2 n.ids.length c2) := have_cell (by rw [hw0]; simp)
  have p02 : ∀ W, Since w0 W → W.cell? ⟨w.heap.size, 2, none⟩ = some (.slice A3 n.inputs.length c3) := have_cell (by rw [hw0]; simp)
  have p10 : ∀ W, Since w0 W → W.cell? ⟨w.heap.size + 1, 0, none⟩ = some (.slice AL ls.length cL) := have_cell (by rw [hw0]; simp)
  have Hb0 := Lib.hid hb0
  have Hw0 := Lib.hid hw0
  have HA := Lib.hid hA
  clear hA h
  clear hb0 hw0
  have HL := Lib.hid (HL0.out.keep Hb0.out)
  obtain ⟨row1, row2, row3⟩ := hs.row hv
  obtain ⟨es, hes⟩ : ∃ es, es = rowOf n v := ⟨_, rfl⟩
  have hst := hs.st v hv
  have hll := hs.len
  have hcount : countB n 4 v = (es.length : Int) + 1 := by rw [hes]; simp [countB, rowOf]
  rw [hcount] at hst
  rw [← hes] at row1 row2 row3 ⊢
  obtain ⟨b, offr, cr, ur, hA1, hkr, hc1, hrow⟩ := row_at H.out.es row1
  cases hA1
  have tr := have_cell hc1
  have Hrow := Lib.hid (show ∀ W, Since w0 W → EndS W ur es from fun W hW => hrow.keep hW.below)
  obtain ⟨A1, z1, rfl, hz1, hz2, hA1⟩ := hrow
  unfold maxLen at hz2
  obtain ⟨m2', bl', ol', cl', s, e0, hvl2, hm2, hg0', hg1', hd4⟩ := lab_at HL.out (x := (v : Int)) (by omega) (by omega)
  cases hvl2
  obtain rfl : v = m2' := by omega
  have t4 := have_cell hd4
  rw [Int.toNat_natCast] at hg1'
  rw [hg1'] at hst ⊢
  obtain ⟨hst1, hst2⟩ := hst
  obtain ⟨Y, hY⟩ : ∃ Y, Y = matchB ls es s := ⟨_, rfl⟩
  rw [← hY]
  have HY := Lib.hid hY
  have Hrb := Lib.hid row3
  have hs0 : Since w0 w0 := since_refl _
  by_cases hpos : 0 < s
  · obtain ⟨k, hk⟩ := Int.eq_ofNat_of_zero_le (show 0 ≤ s - 1 by omega)
    obtain rfl : s = (k : Int) + 1 := by omega
    obtain ⟨⟨x1, x2⟩, hx⟩ := getx es k (by omega)
    obtain ⟨b1, off1, rfl, hd1, hd2⟩ := hA1 k _ hx
    have t1 := have_cell hd1
    have t2 := have_cell hd2
    obtain ⟨⟨i1, i2⟩, i3, i4⟩ := row3 _ (List.mem_of_getElem? hx)
    simp only at i1 i2 i3 i4
    obtain ⟨m1', bl, ol, cl, y, rfl, hvl, hm1, hg0, hg1, hd3⟩ := lab_at HL.out i1 i2
    cases hvl
    have HR : Hid (Y = if ((y == 0) || (y == x2 + 1)) = true then (k : Int) + 1 else 0) := by
      show _ = _
      rw [HY.out]
      unfold matchB
      rw [if_pos hpos, show ((k : Int) + 1 - 1).toNat = k by omega, getD_of hx]
      unfold stayB freeB wantB
      rw [hg1]
    have t3 := have_cell hd3
    have m1 : IntKind.i64.wrap (x2 + 1) = x2 + 1 := wr64 _ (by omega) (by omega)
    have m2 : IntKind.i64.wrap ((k : Int) + 1 - 1) = (k : Int) := by rw [show (k : Int) + 1 - 1 = k by omega]; exact wr64 _ (by omega) (by omega)
    have hkl : k < es.length := by omega
    have hgt : decide ((k : Int) + 1 > 0) = true := decide_eq_true (by omega)
    obtain ⟨w1, hw1⟩ : ∃ w1, w1 = (w0.alloc (.cells #[.int .i64 m1', .int .i64 x2] 96)) := ⟨_, rfl⟩
    have Hw1 := Lib.hid hw1
    have hs1 : Since w0 w1 := by rw [hw1]; exact since_alloc _ (since_refl _)
    have q0 : ∀ W, Since w1 W → W.cell? ⟨w0.heap.size, 0, none⟩ = some (.int .i64 m1') := have_cell (by rw [hw1]; simp)
    have q1 : ∀ W, Since w1 W → W.cell? ⟨w0.heap.size, 1, none⟩ = some (.int .i64 x2) := have_cell (by rw [hw1]; simp)
    have z1 := lift_cell p10 hs1
    have z3 := lift_cell t3 hs1
    have Hs1 := Lib.hid hs1
    have Hll := Lib.hid hll
    clear hx hd1 hd2 hd3 hg0 hg1 hA1 hes hs e0 hc1 row1 row3 hY hd4 hg0' hg1' hk hcount hll hw1 hs1
    go_enter Tryz.func122, Tryz.ntmps122
    go_upto_region 1 with (fail)
    rw [← Hw0.out]
    go_upto_region 5 with (fail)
    rw [← Hw1.out]
    clear p10 t3 t1 t2 tr p00 p01 p02 hs0
    refine wp_region_flow 17 (Since w1) (by kernel_rfl) (by kernel_rfl) (by simp) (since_drew (since_refl _)) ?_
    simp only [List.take_succ_cons, List.take_zero, List.drop_succ_cons, List.drop_zero]
    refine flow_val (v := ?_) rfl ?_ ?_; rotate_left; (intro W hW; go_simp; with_reducible rfl)
    simp only [Act.put, List.setIfInBounds_toArray, List.set_cons_succ, List.set_cons_zero]
    refine flow_val (v := ?_) rfl ?_ ?_; rotate_left; (intro W hW; go_simp; with_reducible rfl)
    simp only [Act.put, List.setIfInBounds_toArray, List.set_cons_succ, List.set_cons_zero]
    refine flow_val (v := ?_) rfl ?_ ?_; rotate_left; (intro W hW; go_simp; with_reducible rfl)
    simp only [Act.put, List.setIfInBounds_toArray, List.set_cons_succ, List.set_cons_zero]
    refine flow_val (v := ?_) rfl ?_ ?_; rotate_left; (intro W hW; go_simp; with_reducible rfl)
    simp only [Act.put, List.setIfInBounds_toArray, List.set_cons_succ, List.set_cons_zero]
    refine flow_val (v := ?_) rfl ?_ ?_; rotate_left; (intro W hW; go_simp; with_reducible rfl)
    simp only [Act.put, List.setIfInBounds_toArray, List.set_cons_succ, List.set_cons_zero]
    refine flow_val (v := ?_) rfl ?_ ?_; rotate_left; (intro W hW; go_simp; with_reducible rfl)
    simp only [Act.put, List.setIfInBounds_toArray, List.set_cons_succ, List.set_cons_zero]
    refine flow_val (v := ?_) rfl ?_ ?_; rotate_left; (intro W hW; go_simp; with_reducible rfl)
    simp only [Act.put, List.setIfInBounds_toArray, List.set_cons_succ, List.set_cons_zero]
    refine flow_gval (v := ?_) rfl rfl ?_ ?_; rotate_left; (intro hb W hW; go_simp; with_reducible rfl)
    simp only [Act.put, List.setIfInBounds_toArray, List.set_cons_succ, List.set_cons_zero]
    refine flow_gval (v := ?_) rfl rfl ?_ ?_; rotate_left; (intro hb W hW; go_simp; with_reducible rfl)
    simp only [Act.put, List.setIfInBounds_toArray, List.set_cons_succ, List.set_cons_zero]
    refine flow_gval (v := ?_) rfl rfl ?_ ?_; rotate_left; (intro hb W hW; go_simp; with_reducible rfl)
    simp only [Act.put, List.setIfInBounds_toArray, List.set_cons_succ, List.set_cons_zero]
    refine flow_gval (v := ?_) rfl rfl ?_ ?_; rotate_left; (intro hb W hW; go_simp; with_reducible rfl)
    simp only [Act.put, List.setIfInBounds_toArray, List.set_cons_succ, List.set_cons_zero]
    refine flow_gval (v := ?_) rfl rfl ?_ ?_; rotate_left; (intro hb W hW; go_simp; with_reducible rfl)
    simp only [Act.put, List.setIfInBounds_toArray, List.set_cons_succ, List.set_cons_zero]
    refine flow_gval (v := ?_) rfl rfl ?_ ?_; rotate_left; (intro hb W hW; go_simp; with_reducible rfl)
    simp only [Act.put, List.setIfInBounds_toArray, List.set_cons_succ, List.set_cons_zero]
    refine flow_gval (v := ?_) rfl rfl ?_ ?_; rotate_left; (intro hb W hW; go_simp; with_reducible rfl)
    simp only [Act.put, List.setIfInBounds_toArray, List.set_cons_succ, List.set_cons_zero]
    refine flow_gval (v := ?_) rfl rfl ?_ ?_; rotate_left; (intro hb W hW; go_simp; with_reducible rfl)
    simp only [Act.put, List.setIfInBounds_toArray, List.set_cons_succ, List.set_cons_zero]
    refine flow_gval (v := ?_) rfl rfl ?_ ?_; rotate_left; (intro hb W hW; go_simp; with_reducible rfl)
    simp only [Act.put, List.setIfInBounds_toArray, List.set_cons_succ, List.set_cons_zero]
    first | refine flow_or rfl rfl ?_ | (refine flow_val (v := ?_) rfl ?_ ?_; rotate_left; (intro W hW; go_simp; with_reducible rfl))
    simp only [Act.put, List.setIfInBounds_toArray, List.set_cons_succ, List.set_cons_zero]
    intro W hW
    have HW := Lib.hid hW
    clear hW
    cases hg : ((y == 0) || (y == x2 + 1))
    · have HR2 : Hid (Y = 0) := by show _ = _; rw [HR.out, hg]; rfl
      clear hg
      go_wp2
      go_ret
      exact ⟨congrArg (fun q => Ending.returned (.int .i64 q)) HR2.out.symm, Since.after Hb0.out (Hs1.out.after HW.out)⟩
    · have HR2 : Hid (Y = (k : Int) + 1) := by show _ = _; rw [HR.out, hg]; rfl
      clear hg
      go_wp2
      go_ret
      exact ⟨congrArg (fun q => Ending.returned (.int .i64 q)) HR2.out.symm, Since.after Hb0.out (Hs1.out.after HW.out)⟩
  · obtain rfl : s = 0 := by omega
    obtain ⟨j1, hj1⟩ : ∃ j, j = eidx (wantB ls) es := ⟨_, rfl⟩
    obtain ⟨j2, hj2⟩ : ∃ j, j = eidx (freeB ls) es := ⟨_, rfl⟩
    have HR : Hid (Y = if 0 ≤ j1 then j1 + 1 else j2 + 1) := by show _ = _; rw [HY.out]; unfold matchB; rw [if_neg hpos, ← hj1, ← hj2]
    have b1 := eidx_bd (wantB ls) es
    have b2 := eidx_bd (freeB ls) es
    rw [← hj1] at b1
    rw [← hj2] at b2
    have HP1 : Hid (PredE w0 178 #[.pointer (some ⟨w.heap.size + 1, 0, none⟩)] (wantB ls) es) := fun x hx W hW => nm1_any x.1 x.2 _ ls _ W (HL.out.keep hW.below) (p10 W hW) (Hrb.out x hx).1.1 (Hrb.out x hx).1.2 (Hrb.out x hx).2
    have HP2 : Hid (PredE w0 179 #[.pointer (some ⟨w.heap.size + 1, 0, none⟩)] (freeB ls) es) := fun x hx W hW => nm2_any x.1 x.2 _ ls _ W (HL.out.keep hW.below) (p10 W hW) (Hrb.out x hx).1.1 (Hrb.out x hx).1.2
    have hc1 := indexFuncE_any _ es _ _ _ w0 (Hrow.out _ hs0) nm1_ent HP1.out
    rw [← hj1] at hc1
    have Hc1 := Lib.hid hc1
    have Hc2 : Hid (∀ W, Since w0 W → Calls Tryz.prog 147 #[.slice A1 es.length z1, .func (.func 179) #[] #[.pointer (some ⟨w.heap.size + 1, 0, none⟩)]] W fun e w' => e = .returned (.int .i64 j2) ∧ Below W.heap.size W w') := fun W hW => by
      rw [hj2]
      exact indexFuncE_any _ es _ _ _ W (Hrow.out _ hW) nm2_ent (fun x hx W' hW' => HP2.out x hx W' (hW.trans hW'))
    have m1 : IntKind.i64.wrap (j1 + 1) = j1 + 1 := wr64 _ (by omega) (by omega)
    have m2 : IntKind.i64.wrap (j2 + 1) = j2 + 1 := wr64 _ (by omega) (by omega)
    have Hll := Lib.hid hll
    clear hA1 hes hs e0 row1 row3 hY hd4 hg0' hg1' hcount hll hc1 hj1 hj2 HP1 HP2
    go_enter Tryz.func122, Tryz.ntmps122
    go_upto_region 1 with (fail)
    rw [← Hw0.out]
    go_wp2_with fail
    refine Hc1.out.mono ?_
    rintro e w1 ⟨rfl, hb1⟩
    have hs1 : Since w0 w1 := hb1
    clear hb1 hs0
    by_cases hj : 0 ≤ j1
    · have HR2 : Hid (Y = j1 + 1) := by show _ = _; rw [HR.out, if_pos hj]
      have hjd : decide (j1 ≥ 0) = true := by simpa using hj
      go_wp2
      go_ret
      exact ⟨congrArg (fun q => Ending.returned (.int .i64 q)) HR2.out.symm, Since.after Hb0.out hs1⟩
    · have HR2 : Hid (Y = j2 + 1) := by show _ = _; rw [HR.out, if_neg hj]
      have hjd : decide (j1 ≥ 0) = false := by simpa using hj
      go_wp2_with fail
      refine (Hc2.out w1 hs1).mono ?_
      rintro e w2 ⟨rfl, hb2⟩
      have Hs2 := Lib.hid (hs1.trans hb2)
      clear hb2 hs1
      go_wp2
      go_ret
      exact ⟨congrArg (fun q => Ending.returned (.int .i64 q)) HR2.out.symm, Since.after Hb0.out Hs2.out⟩
end Go.Proofs.YtlfehdikgbgloaaGreat
namespace Go.Proofs.YtlfehdikgbgloaaGreat
open Go.RowKit
set_option maxHeartbeats 1600000 in
theorem ssPointed_any (ve vi vn vl : Value) (n : Net) (r : Int) (ls : List Int) (v : Nat) (w : World) (h : NetIn w ve vi vn n) (hl : IntS w vl ls) (hs : SitP n r ls) (hv : v < n.ends.length) :
    Calls Tryz.prog 174 #[.agg #[ve, vi, vn], vl, .int .i64 v] w fun e w' => e = .returned (.int .i64 (eidx (wantB ls) (rowOf n v))) ∧ Below w.heap.size w w' := by
  have hnl := netOk_len hs.net
  obtain ⟨w0, hw0⟩ : ∃ w0, w0 = (w).alloc (.cells #[ve, vi, vn] 31) := ⟨_, rfl⟩
  have hb0 : Below w.heap.size w w0 := by rw [hw0]; exact ((Below.refl _ _).alloc (by simp) _)
  have H := Lib.hid (h.keep hb0)
  obtain ⟨h1, h2, h3⟩ := h.keep hb0
  obtain ⟨A, c, rfl, hlc, hm, hA⟩ := h1
  obtain ⟨A2, c2, rfl, _, hm2, _⟩ := h2
  obtain ⟨A3, c3, rfl, _, hm3, _⟩ := h3
  unfold maxLen at hm hm2 hm3
  have p00 : ∀ W, Since w0 W → W.cell? ⟨w.heap.size, 0, none⟩ = some (.slice A n.ends.length c) := have_cell (by rw [hw0]; simp)
  have p01 : ∀ W, Since w0 W → W.cell? ⟨w.heap.size, 1, none⟩ = some (.slice A2 n.ids.length c2) := have_cell (by rw [hw0]; simp)
  have p02 : ∀ W, Since w0 W → W.cell? ⟨w.heap.size, 2, none⟩ = some (.slice A3 n.inputs.length c3) := have_cell (by rw [hw0]; simp)
  have Hb0 := Lib.hid hb0
  have Hw0 := Lib.hid hw0
  have HA := Lib.hid hA
  clear hA h
  clear hb0 hw0
  have HL := Lib.hid (hl.keep Hb0.out)
  obtain ⟨AL, cL, rfl, hlL, hmL, _⟩ := hl
  unfold maxLen at hmL
  obtain ⟨row1, row2, row3⟩ := hs.row hv
  obtain ⟨es, hes⟩ : ∃ es, es = rowOf n v := ⟨_, rfl⟩
  rw [← hes] at row1 row2 row3 ⊢
  obtain ⟨b, offr, cr, ur, hA1, hkr, hc1, hrow⟩ := row_at H.out.es row1
  cases hA1
  have tr := have_cell hc1
  obtain ⟨A1, z1, rfl, hz1, hz2, hA1⟩ := hrow
  unfold maxLen at hz2
  have HA1 := Lib.hid hA1
  have Hrb := Lib.hid row3
  have hs0 : Since w0 w0 := since_refl _
  clear row1 row3 hes hs hc1 hA1
  go_enter Tryz.func174, Tryz.ntmps174
  go_upto_region 1 with (fail)
  rw [← Hw0.out]
  go_wp2
  go_loopw [15] (fun i wr => ∃ k : Nat, k ≤ es.length ∧ i = .int .i64 k ∧ (es.take k).any (wantB ls) = false ∧ Since w0 wr) (fun i _ => es.length - (intOf i).toNat)
  case atStart => exact ⟨0, Nat.zero_le _, rfl, rfl, hs0⟩
  case round =>
    obtain ⟨k, hk, rfl, hany, hsr⟩ := hrel
    have Hany := Lib.hid hany
    clear hany hs0
    by_cases hlt : k < es.length
    · obtain ⟨⟨x1, x2⟩, hx⟩ := getx es k hlt
      obtain ⟨b1, off1, rfl, hd1, hd2⟩ := HA1.out k _ hx
      have t1 := have_cell hd1
      have t2 := have_cell hd2
      obtain ⟨⟨i1, i2⟩, i3, i4⟩ := Hrb.out _ (List.mem_of_getElem? hx)
      simp only at i1 i2 i3 i4
      obtain ⟨m1', bl, ol, cl, y, rfl, hvl, hm1, hg0, hg1, hd3⟩ := lab_at HL.out i1 i2
      cases hvl
      have t3 := have_cell hd3
      have Hx := Lib.hid hx
      have HR : Hid (wantB ls ((m1' : Int), x2) = (y == x2 + 1)) := by show _ = _; unfold wantB; rw [hg1]
      have m1 : IntKind.i64.wrap (x2 + 1) = x2 + 1 := wr64 _ (by omega) (by omega)
      have m3 : IntKind.i64.wrap ((k : Int) + 1) = (k : Int) + 1 := wr64 _ (by omega) (by omega)
      obtain ⟨w1, hw1⟩ : ∃ w1, w1 = (wr.alloc (.cells #[.int .i64 m1', .int .i64 x2] 96)) := ⟨_, rfl⟩
      have Hw1 := Lib.hid hw1
      have hs1 : Since wr w1 := by rw [hw1]; exact since_alloc _ (since_refl _)
      have q0 : ∀ W, Since w1 W → W.cell? ⟨wr.heap.size, 0, none⟩ = some (.int .i64 m1') := have_cell (by rw [hw1]; simp)
      have q1 : ∀ W, Since w1 W → W.cell? ⟨wr.heap.size, 1, none⟩ = some (.int .i64 x2) := have_cell (by rw [hw1]; simp)
      have z3 := lift_cell t3 (hsr.after hs1)
      have Hs1 := Lib.hid (hsr.after hs1)
      clear hx hd1 hd2 hd3 hg0 hg1 hw1 hs1
      go_upto_region 4 with (fail)
      rw [← Hw1.out]
      clear t1 t2 t3 tr p00 p01 p02 hsr
      refine wp_region_flow 9 (Since w1) (by kernel_rfl) (by kernel_rfl) (by simp) (since_drew (since_refl _)) ?_
      simp only [List.take_succ_cons, List.take_zero, List.drop_succ_cons, List.drop_zero]
      refine flow_val (v := ?_) rfl ?_ ?_; rotate_left; (intro W hW; go_simp; with_reducible rfl)
      simp only [Act.put, List.setIfInBounds_toArray, List.set_cons_succ, List.set_cons_zero]
      refine flow_val (v := ?_) rfl ?_ ?_; rotate_left; (intro W hW; go_simp; with_reducible rfl)
      simp only [Act.put, List.setIfInBounds_toArray, List.set_cons_succ, List.set_cons_zero]
      refine flow_val (v := ?_) rfl ?_ ?_; rotate_left; (intro W hW; go_simp; with_reducible rfl)
      simp only [Act.put, List.setIfInBounds_toArray, List.set_cons_succ, List.set_cons_zero]
      refine flow_val (v := ?_) rfl ?_ ?_; rotate_left; (intro W hW; go_simp; with_reducible rfl)
      simp only [Act.put, List.setIfInBounds_toArray, List.set_cons_succ, List.set_cons_zero]
      refine flow_val (v := ?_) rfl ?_ ?_; rotate_left; (intro W hW; go_simp; with_reducible rfl)
      simp only [Act.put, List.setIfInBounds_toArray, List.set_cons_succ, List.set_cons_zero]
      refine flow_val (v := ?_) rfl ?_ ?_; rotate_left; (intro W hW; go_simp; with_reducible rfl)
      simp only [Act.put, List.setIfInBounds_toArray, List.set_cons_succ, List.set_cons_zero]
      refine flow_val (v := ?_) rfl ?_ ?_; rotate_left; (intro W hW; go_simp; with_reducible rfl)
      simp only [Act.put, List.setIfInBounds_toArray, List.set_cons_succ, List.set_cons_zero]
      refine flow_val (v := ?_) rfl ?_ ?_; rotate_left; (intro W hW; go_simp; with_reducible rfl)
      simp only [Act.put, List.setIfInBounds_toArray, List.set_cons_succ, List.set_cons_zero]
      refine flow_val (v := ?_) rfl ?_ ?_; rotate_left; (intro W hW; go_simp; with_reducible rfl)
      simp only [Act.put, List.setIfInBounds_toArray, List.set_cons_succ, List.set_cons_zero]
      intro W hW
      have HW := Lib.hid (Hs1.out.after hW)
      clear hW
      cases hy : (y == x2 + 1)
      · have hf : Hid (wantB ls ((m1' : Int), x2) = false) := by show _ = _; rw [HR.out, hy]
        clear hy
        go_wp2
        go_roundw
        case rel => exact ⟨k + 1, by omega, by go_num, any_snoc' Hx.out Hany.out hf.out, HW.out⟩
        case measure => simp [intOf]; omega
      · have hf : Hid (wantB ls ((m1' : Int), x2) = true) := by show _ = _; rw [HR.out, hy]
        have Hr : Hid (eidx (wantB ls) es = k) := by show _ = _; unfold eidx; rw [fi_found Hx.out hf.out Hany.out]
        clear hy
        go_wp2
        go_ret
        exact ⟨congrArg (fun i => Ending.returned (.int .i64 i)) Hr.out.symm, Since.after Hb0.out HW.out⟩
    · obtain rfl : k = es.length := by omega
      have Hr : Hid (eidx (wantB ls) es = -1) := by show _ = _; unfold eidx; rw [fi_none (by have := Hany.out; rwa [List.take_length] at this)]
      go_wp2
      go_ret
      exact ⟨congrArg (fun i => Ending.returned (.int .i64 i)) Hr.out.symm, Since.after Hb0.out hsr⟩
set_option maxRecDepth 100000 in
set_option maxHeartbeats 1600000 in
theorem ssMatch_any (ve vi vn vl : Value) (n : Net) (ls : List Int) (v : Nat) (w : World) (h : NetIn w ve vi vn n) (hl : IntS w vl ls) (hs : SitP n 4 ls) (hv : v < n.ends.length) :
    Calls Tryz.prog 115 #[.agg #[ve, vi, vn], vl, .int .i64 v] w fun e w' => e = .returned (.int .i64 (matchB ls (rowOf n v) (ls.getD v 0))) ∧ Below w.heap.size w w' := by
  have HL0 := Lib.hid hl
  obtain ⟨AL, cL, rfl, hlL, hmL, _⟩ := hl
  unfold maxLen at hmL
  have hnl := netOk_len hs.net
  obtain ⟨w0, hw0⟩ : ∃ w0, w0 = (w).alloc (.cells #[ve, vi, vn] 31) := ⟨_, rfl⟩
  have hb0 : Below w.heap.size w w0 := by rw [hw0]; exact ((Below.refl _ _).alloc (by simp) _)
  have H := Lib.hid (h.keep hb0)
  obtain ⟨h1, h2, h3⟩ := h.keep hb0
  obtain ⟨A, c, rfl, hlc, hm, hA⟩ := h1
  obtain ⟨A2, c2, rfl, _, hm2, _⟩ := h2
  obtain ⟨A3, c3, rfl, _, hm3, _⟩ := h3
  unfold maxLen at hm hm2 hm3
  have p00 : ∀ W, Since w0 W → W.cell? ⟨w.heap.size, 0, none⟩ = some (.slice A n.ends.length c) := have_cell (by rw [hw0]; simp)
  have p01 : ∀ W, Since w0 W → W.cell? ⟨w.heap.size, 1, none⟩ = some (.slice A2 n.ids.length c2) := have_cell (by rw [hw0]; simp)
  have p02 : ∀ W, Since w0 W → W.cell? ⟨w.heap.size, 2, none⟩ = some (.slice A3 n.inputs.length c3) := have_cell (by rw [hw0]; simp)
  have Hb0 := Lib.hid hb0
  have Hw0 := Lib.hid hw0
  have HA := Lib.hid hA
  clear hA h
  clear hb0 hw0
  have HL := Lib.hid (HL0.out.keep Hb0.out)
  obtain ⟨row1, row2, row3⟩ := hs.row hv
  have hle := rowOf_le hs hv
  have hpo : Hid (∀ W, Since w0 W → Calls Tryz.prog 174 #[.agg #[.slice A n.ends.length c, .slice A2 n.ids.length c2, .slice A3 n.inputs.length c3], .slice AL ls.length cL, .int .i64 v] W fun e w' => e = .returned (.int .i64 (eidx (wantB ls) (rowOf n v))) ∧ Below W.heap.size W w') :=
    fun W hW => ssPointed_any _ _ _ _ n 4 ls v W (H.out.keep hW.below) (HL.out.keep hW.below) hs hv
  have hnn : Hid (∀ W, Since w0 W → Calls Tryz.prog 112 #[.agg #[.slice A n.ends.length c, .slice A2 n.ids.length c2, .slice A3 n.inputs.length c3], .int .i64 v] W fun e w' => ∃ u, e = .returned u ∧ Own w' W.heap.size u ((rowOf n v).map (·.1)) ∧ Below W.heap.size W w') :=
    fun W hW => neNear_any _ _ _ n v (rowOf n v) W (H.out.keep hW.below) row1 hle
  obtain ⟨es, hes⟩ : ∃ es, es = rowOf n v := ⟨_, rfl⟩
  have hst := hs.st v hv
  have hll := hs.len
  have hcount : countB n 4 v = (es.length : Int) + 1 := by rw [hes]; simp [countB, rowOf]
  rw [hcount] at hst
  rw [← hes] at row1 row2 row3 hpo hnn ⊢
  obtain ⟨b, offr, cr, ur, hA1, hkr, hc1, hrow⟩ := row_at H.out.es row1
  cases hA1
  have tr := have_cell hc1
  obtain ⟨A1, z1, rfl, hz1, hz2, hA1⟩ := hrow
  unfold maxLen at hz2
  obtain ⟨m2', bl', ol', cl', s, e0, hvl2, hm2, hg0', hg1', hd4⟩ := lab_at HL.out (x := (v : Int)) (by omega) (by omega)
  cases hvl2
  obtain rfl : v = m2' := by omega
  have t4 := have_cell hd4
  rw [Int.toNat_natCast] at hg1'
  rw [hg1'] at hst ⊢
  obtain ⟨hst1, hst2⟩ := hst
  obtain ⟨Y, hY⟩ : ∃ Y, Y = matchB ls es s := ⟨_, rfl⟩
  rw [← hY]
  have HY := Lib.hid hY
  have Hrb := Lib.hid row3
  have hs0 : Since w0 w0 := since_refl _
  have Hll := Lib.hid hll
  by_cases hpos : 0 < s
  · obtain ⟨k, hk⟩ := Int.eq_ofNat_of_zero_le (show 0 ≤ s - 1 by omega)
    obtain rfl : s = (k : Int) + 1 := by omega
    obtain ⟨⟨x1, x2⟩, hx⟩ := getx es k (by omega)
    obtain ⟨b1, off1, rfl, hd1, hd2⟩ := hA1 k _ hx
    have t1 := have_cell hd1
    have t2 := have_cell hd2
    obtain ⟨⟨i1, i2⟩, i3, i4⟩ := row3 _ (List.mem_of_getElem? hx)
    simp only at i1 i2 i3 i4
    obtain ⟨m1', bl, ol, cl, y, rfl, hvl, hm1, hg0, hg1, hd3⟩ := lab_at HL.out i1 i2
    cases hvl
    have HR : Hid (Y = if ((y == 0) || (y == x2 + 1)) = true then (k : Int) + 1 else 0) := by
      show _ = _
      rw [HY.out]
      unfold matchB
      rw [if_pos hpos, show ((k : Int) + 1 - 1).toNat = k by omega, getD_of hx]
      unfold stayB freeB wantB
      rw [hg1]
    have t3 := have_cell hd3
    have m1 : IntKind.i64.wrap (x2 + 1) = x2 + 1 := wr64 _ (by omega) (by omega)
    have m2 : IntKind.i64.wrap ((k : Int) + 1 - 1) = (k : Int) := by rw [show (k : Int) + 1 - 1 = k by omega]; exact wr64 _ (by omega) (by omega)
    have hkl : k < es.length := by omega
    have hgt : decide ((k : Int) + 1 > 0) = true := decide_eq_true (by omega)
    obtain ⟨w1, hw1⟩ : ∃ w1, w1 = (w0.alloc (.cells #[.int .i64 m1', .int .i64 x2] 96)).drew := ⟨_, rfl⟩
    have Hw1 := Lib.hid hw1
    have hs1 : Since w0 w1 := by rw [hw1]; exact since_drew (since_alloc _ (since_refl _))
    have q0 : ∀ W, Since w1 W → W.cell? ⟨w0.heap.size, 0, none⟩ = some (.int .i64 m1') := have_cell (by rw [hw1]; simp)
    have q1 : ∀ W, Since w1 W → W.cell? ⟨w0.heap.size, 1, none⟩ = some (.int .i64 x2) := have_cell (by rw [hw1]; simp)
    have z3 := lift_cell t3 hs1
    have z4 := lift_cell t4 hs1
    have Hs1 := Lib.hid hs1
    clear hx hd1 hd2 hd3 hg0 hg1 hA1 hes hs e0 hc1 row1 row3 hY hd4 hg0' hg1' hk hcount hll hw1 hs1
    go_enter Tryz.func115, Tryz.ntmps115
    go_upto_region 1 with (fail)
    rw [← Hw0.out]
    go_upto_region 2 with (fail)
    go_region
    go_upto_region 3 with (fail)
    rw [← Hw1.out]
    clear t3 t1 t2 t4 tr p00 p01 p02 hs0
    refine wp_region_flow 17 (Since w1) (by kernel_rfl) (by kernel_rfl) (by simp) (since_drew (since_refl _)) ?_
    simp only [List.take_succ_cons, List.take_zero, List.drop_succ_cons, List.drop_zero]
    refine flow_val (v := ?_) rfl ?_ ?_; rotate_left; (intro W hW; go_simp; with_reducible rfl)
    simp only [Act.put, List.setIfInBounds_toArray, List.set_cons_succ, List.set_cons_zero]
    refine flow_val (v := ?_) rfl ?_ ?_; rotate_left; (intro W hW; go_simp; with_reducible rfl)
    simp only [Act.put, List.setIfInBounds_toArray, List.set_cons_succ, List.set_cons_zero]
    refine flow_val (v := ?_) rfl ?_ ?_; rotate_left; (intro W hW; go_simp; with_reducible rfl)
    simp only [Act.put, List.setIfInBounds_toArray, List.set_cons_succ, List.set_cons_zero]
    refine flow_val (v := ?_) rfl ?_ ?_; rotate_left; (intro W hW; go_simp; with_reducible rfl)
    simp only [Act.put, List.setIfInBounds_toArray, List.set_cons_succ, List.set_cons_zero]
    refine flow_val (v := ?_) rfl ?_ ?_; rotate_left; (intro W hW; go_simp; with_reducible rfl)
    simp only [Act.put, List.setIfInBounds_toArray, List.set_cons_succ, List.set_cons_zero]
    refine flow_val (v := ?_) rfl ?_ ?_; rotate_left; (intro W hW; go_simp; with_reducible rfl)
    simp only [Act.put, List.setIfInBounds_toArray, List.set_cons_succ, List.set_cons_zero]
    refine flow_val (v := ?_) rfl ?_ ?_; rotate_left; (intro W hW; go_simp; with_reducible rfl)
    simp only [Act.put, List.setIfInBounds_toArray, List.set_cons_succ, List.set_cons_zero]
    refine flow_gval (v := ?_) rfl rfl ?_ ?_; rotate_left; (intro hb W hW; go_simp; with_reducible rfl)
    simp only [Act.put, List.setIfInBounds_toArray, List.set_cons_succ, List.set_cons_zero]
    refine flow_gval (v := ?_) rfl rfl ?_ ?_; rotate_left; (intro hb W hW; go_simp; with_reducible rfl)
    simp only [Act.put, List.setIfInBounds_toArray, List.set_cons_succ, List.set_cons_zero]
    refine flow_gval (v := ?_) rfl rfl ?_ ?_; rotate_left; (intro hb W hW; go_simp; with_reducible rfl)
    simp only [Act.put, List.setIfInBounds_toArray, List.set_cons_succ, List.set_cons_zero]
    refine flow_gval (v := ?_) rfl rfl ?_ ?_; rotate_left; (intro hb W hW; go_simp; with_reducible rfl)
    simp only [Act.put, List.setIfInBounds_toArray, List.set_cons_succ, List.set_cons_zero]
    refine flow_gval (v := ?_) rfl rfl ?_ ?_; rotate_left; (intro hb W hW; go_simp; with_reducible rfl)
    simp only [Act.put, List.setIfInBounds_toArray, List.set_cons_succ, List.set_cons_zero]
    refine flow_gval (v := ?_) rfl rfl ?_ ?_; rotate_left; (intro hb W hW; go_simp; with_reducible rfl)
    simp only [Act.put, List.setIfInBounds_toArray, List.set_cons_succ, List.set_cons_zero]
    refine flow_gval (v := ?_) rfl rfl ?_ ?_; rotate_left; (intro hb W hW; go_simp; with_reducible rfl)
    simp only [Act.put, List.setIfInBounds_toArray, List.set_cons_succ, List.set_cons_zero]
    refine flow_gval (v := ?_) rfl rfl ?_ ?_; rotate_left; (intro hb W hW; go_simp; with_reducible rfl)
    simp only [Act.put, List.setIfInBounds_toArray, List.set_cons_succ, List.set_cons_zero]
    refine flow_gval (v := ?_) rfl rfl ?_ ?_; rotate_left; (intro hb W hW; go_simp; with_reducible rfl)
    simp only [Act.put, List.setIfInBounds_toArray, List.set_cons_succ, List.set_cons_zero]
    first | refine flow_or rfl rfl ?_ | (refine flow_val (v := ?_) rfl ?_ ?_; rotate_left; (intro W hW; go_simp; with_reducible rfl))
    simp only [Act.put, List.setIfInBounds_toArray, List.set_cons_succ, List.set_cons_zero]
    intro W hW
    have z4' := lift_cell z4 hW
    have HW := Lib.hid hW
    have hsW : Since W W := since_refl _
    clear hW z4
    cases hg : ((y == 0) || (y == x2 + 1))
    · have HR2 : Hid (Y = 0) := by show _ = _; rw [HR.out, hg]; rfl
      clear hg
      go_wp2
      go_ret
      exact ⟨congrArg (fun q => Ending.returned (.int .i64 q)) HR2.out.symm, Since.after Hb0.out (Hs1.out.after HW.out)⟩
    · have HR2 : Hid (Y = (k : Int) + 1) := by show _ = _; rw [HR.out, hg]; rfl
      clear hg
      go_wp2
      go_ret
      exact ⟨congrArg (fun q => Ending.returned (.int .i64 q)) HR2.out.symm, Since.after Hb0.out (Hs1.out.after HW.out)⟩
  · obtain rfl : s = 0 := by omega
    obtain ⟨j1, hj1⟩ : ∃ j, j = eidx (wantB ls) es := ⟨_, rfl⟩
    obtain ⟨j2, hj2⟩ : ∃ j, j = eidx (freeB ls) es := ⟨_, rfl⟩
    have HR : Hid (Y = if 0 ≤ j1 then j1 + 1 else j2 + 1) := by show _ = _; rw [HY.out]; unfold matchB; rw [if_neg hpos, ← hj1, ← hj2]
    have b1 := eidx_bd (wantB ls) es
    rw [← hj1] at b1 hpo
    have Hj2 := Lib.hid hj2
    have m1 : IntKind.i64.wrap (j1 + 1) = j1 + 1 := wr64 _ (by omega) (by omega)
    clear hA1 hes hs e0 row1 row3 hY hd4 hg0' hg1' hcount hll hj1 hj2 hc1
    go_enter Tryz.func115, Tryz.ntmps115
    go_upto_region 1 with (fail)
    rw [← Hw0.out]
    go_wp2_with fail
    refine (hpo.out w0 hs0).mono ?_
    rintro e w1 ⟨rfl, hb1⟩
    have hs1 : Since w0 w1 := hb1
    clear hb1 hs0
    by_cases hj : 0 ≤ j1
    · have HR2 : Hid (Y = j1 + 1) := by show _ = _; rw [HR.out, if_pos hj]
      have hjd : decide (j1 ≥ 0) = true := by simpa using hj
      go_wp2
      go_ret
      exact ⟨congrArg (fun q => Ending.returned (.int .i64 q)) HR2.out.symm, Since.after Hb0.out hs1⟩
    · have HR2 : Hid (Y = j2 + 1) := by show _ = _; rw [HR.out, if_neg hj]
      have hjd : decide (j1 ≥ 0) = false := by simpa using hj
      obtain ⟨ds, hds⟩ : ∃ ds, ds = es.map (·.1) := ⟨_, rfl⟩
      rw [← hds] at hnn
      have hdl : ds.length = es.length := by rw [hds]; simp
      have Hds := Lib.hid hds
      clear hds
      go_wp2_with fail
      refine (hnn.out w1 hs1).mono ?_
      rintro e w2 ⟨u, rfl, ho, hb2⟩
      have hs2 : Since w0 w2 := hs1.trans hb2
      have hI := ho.ints
      obtain ⟨Bu, du, rfl, hdl2, hdm, hdc⟩ := hI
      unfold maxLen at hdm
      have Hdc := Lib.hid hdc
      have Hdl := Lib.hid hdl
      clear hb2 hs1 ho hdc hdl
      go_wp2
      go_loopw [61] (fun i wr => ∃ k : Nat, k ≤ ds.length ∧ i = .int .i64 k ∧ (es.take k).any (freeB ls) = false ∧ Since w2 wr) (fun i _ => ds.length - (intOf i).toNat)
      case atStart => exact ⟨0, Nat.zero_le _, rfl, rfl, since_refl _⟩
      case round =>
        obtain ⟨k, hk, rfl, hany, hsr⟩ := hrel
        have Hany := Lib.hid hany
        clear hany
        by_cases hlt : k < ds.length
        · obtain ⟨x, hx⟩ := getx es k (by rw [← Hdl.out]; exact hlt)
          have hdx : ds[k]? = some x.1 := by rw [Hds.out, List.getElem?_map, hx]; rfl
          obtain ⟨b5, off5, rfl, hcell⟩ := Hdc.out k x.1 hdx
          obtain ⟨⟨i1, i2⟩, -⟩ := Hrb.out _ (List.mem_of_getElem? hx)
          obtain ⟨m1', bl, ol, cl, y, e5, hvl, hm1, hg0, hg1, hd3⟩ := lab_at HL.out i1 i2
          cases hvl
          rw [e5] at hcell
          have d0 := hsr.cell hcell
          have d3 := (hs2.after hsr).cell hd3
          have Hx := Lib.hid hx
          have HF : Hid (freeB ls x = (y == 0)) := by show _ = _; unfold freeB; rw [hg1]
          have m3 : IntKind.i64.wrap ((k : Int) + 1) = (k : Int) + 1 := wr64 _ (by omega) (by omega)
          have hm1' : m1' < ls.length := hm1
          clear hx hdx hcell hg0 hg1 hd3 e5
          cases hy : (y == 0)
          · have hf : Hid (freeB ls x = false) := by show _ = _; rw [HF.out, hy]
            go_wp2
            go_roundw
            case rel => exact ⟨k + 1, by omega, by go_num, any_snoc' Hx.out Hany.out hf.out, hsr⟩
            case measure => simp [intOf]; omega
          · have hf : Hid (freeB ls x = true) := by show _ = _; rw [HF.out, hy]
            have Hr : Hid (Y = (k : Int) + 1) := by show _ = _; rw [HR2.out, Hj2.out]; unfold eidx; rw [fi_found Hx.out hf.out Hany.out]
            go_wp2
            go_ret
            exact ⟨congrArg (fun i => Ending.returned (.int .i64 i)) Hr.out.symm, Since.after Hb0.out (hs2.after hsr)⟩
        · have hke : k = es.length := by rw [← Hdl.out]; omega
          have Hr : Hid (Y = 0) := by show _ = _; rw [HR2.out, Hj2.out]; unfold eidx; rw [fi_none (by have := Hany.out; rwa [hke, List.take_length] at this)]; rfl
          clear hke
          obtain rfl : k = ds.length := by omega
          go_wp2
          go_ret
          exact ⟨congrArg (fun i => Ending.returned (.int .i64 i)) Hr.out.symm, Since.after Hb0.out (hs2.after hsr)⟩
end Go.Proofs.YtlfehdikgbgloaaGreat
namespace Go.Proofs.YtlfehdikgbgloaaGreat
open Go.RowKit
set_option maxRecDepth 100000 in
set_option maxHeartbeats 1600000 in
theorem nextState_any (ve vi vn vl : Value) (n : Net) (r : Int) (ls : List Int) (v : Nat) (w : World) (h : NetIn w ve vi vn n) (hl : IntS w vl ls) (hs : SitP n r ls) (hv : v < n.ends.length) :
    Calls Tryz.prog 55 #[.agg #[ve, vi, vn], .int .i64 r, vl, .int .i64 v] w fun e w' => e = .returned (.int .i64 (nextB n r ls v)) ∧ Below w.heap.size w w' := by
  have HL0 := Lib.hid hl
  obtain ⟨AL, cL, rfl, hlL, hmL, _⟩ := hl
  unfold maxLen at hmL
  have hnl := netOk_len hs.net
  obtain ⟨w0, hw0⟩ : ∃ w0, w0 = (w).alloc (.cells #[ve, vi, vn] 31) := ⟨_, rfl⟩
  have hb0 : Below w.heap.size w w0 := by rw [hw0]; exact ((Below.refl _ _).alloc (by simp) _)
  have H := Lib.hid (h.keep hb0)
  obtain ⟨h1, h2, h3⟩ := h.keep hb0
  obtain ⟨A, c, rfl, hlc, hm, hA⟩ := h1
  obtain ⟨A2, c2, rfl, _, hm2, _⟩ := h2
  obtain ⟨A3, c3, rfl, _, hm3, _⟩ := h3
  unfold maxLen at hm hm2 hm3
  have p00 : ∀ W, Since w0 W → W.cell? ⟨w.heap.size, 0, none⟩ = some (.slice A n.ends.length c) := have_cell (by rw [hw0]; simp)
  have p01 : ∀ W, Since w0 W → W.cell? ⟨w.heap.size, 1, none⟩ = some (.slice A2 n.ids.length c2) := have_cell (by rw [hw0]; simp)
  have p02 : ∀ W, Since w0 W → W.cell? ⟨w.heap.size, 2, none⟩ = some (.slice A3 n.inputs.length c3) := have_cell (by rw [hw0]; simp)
  have Hb0 := Lib.hid hb0
  have Hw0 := Lib.hid hw0
  have HA := Lib.hid hA
  clear hA h
  clear hb0 hw0
  have HL := Lib.hid (HL0.out.keep Hb0.out)
  have Hs := Lib.hid hs
  obtain ⟨row1, row2, row3⟩ := hs.row hv
  have hle := rowOf_le hs hv
  obtain ⟨ds, hds⟩ : ∃ ds, ds = nearB ls (rowOf n v) := ⟨_, rfl⟩
  have hcall := near_any _ _ _ _ n ls v (rowOf n v) w0 H.out HL.out row1 hle (fun e he => (row3 e he).1)
  rw [← hds] at hcall
  have Hcall := Lib.hid hcall
  have Hll := Lib.hid hs.len
  obtain ⟨m2', bl', ol', cl', s, e0, hvl2, hm2, hg0', hg1', hd4⟩ := lab_at HL.out (x := (v : Int)) (by omega) (by have := hs.len; omega)
  cases hvl2
  obtain rfl : v = m2' := by omega
  have t4 := have_cell hd4
  rw [Int.toNat_natCast] at hg1'
  have hlo := hs.lo
  have hhi := hs.hi
  obtain ⟨Y, hY⟩ : ∃ Y, Y = nextB n r ls v := ⟨_, rfl⟩
  rw [← hY]
  have HY : Hid (Y = if r = 1 then treeB n ls v else if r = 2 then (if hasB ds s = true then leastB ds else s) else if r = 3 then (if hasB ds 1 = true then 0 else 1) else if r = 4 then matchB ls (rowOf n v) s else tokenB n ls v) := by
    show _ = _; rw [hY]; unfold nextB; rw [← hds, hg1']
  have hg := Lib.hid hg1'
  have hs0 : Since w0 w0 := since_refl _
  clear hY hds hcall hd4 hg0' hg1' e0 row1 row2 row3 hle hs
  by_cases h1 : r = 1
  · subst h1
    have HR : Hid (Y = treeB n ls v) := by show _ = _; rw [HY.out, if_pos rfl]
    go_enter Tryz.func55, Tryz.ntmps55
    go_upto_region 1 with (fail)
    rw [← Hw0.out]
    go_wp2_with fail
    refine Hcall.out.mono ?_
    rintro e w1 ⟨u, rfl, ho, hb⟩
    have hs1 : Since w0 w1 := hb
    clear hb ho hs0
    go_wp2_with fail
    refine (nextTree_any _ _ _ _ n 1 ls v w1 (H.out.keep hs1.below) (HL.out.keep hs1.below) Hs.out hv).mono ?_
    rintro e w2 ⟨rfl, hb2⟩
    have Hs2 := Lib.hid (hs1.trans hb2)
    clear hb2 hs1
    go_wp2
    go_ret
    exact ⟨congrArg (fun q => Ending.returned (.int .i64 q)) HR.out.symm, Since.after Hb0.out Hs2.out⟩
  have b1 : (r == 1) = false := by simpa using h1
  by_cases h2 : r = 2
  · subst h2
    have HR0 : Hid (Y = if hasB ds s = true then leastB ds else s) := by show _ = _; rw [HY.out, if_neg h1, if_pos rfl]
    go_enter Tryz.func55, Tryz.ntmps55
    go_upto_region 1 with (fail)
    rw [← Hw0.out]
    go_wp2_with fail
    refine Hcall.out.mono ?_
    rintro e w1 ⟨u, rfl, ho, hb⟩
    have hs1 : Since w0 w1 := hb
    have HI := Lib.hid ho.ints
    obtain ⟨z, hz⟩ : ∃ z, z = hasB ds s := ⟨_, rfl⟩
    rw [← hz] at HR0
    have Hz := Lib.hid hz
    obtain ⟨Bu, du, rfl, _⟩ := id ho.ints
    clear hb ho hs0 hz
    go_wp2_with fail
    refine (containsI_any _ ds s w1 HI.out).mono ?_
    rw [← Hz.out]
    rintro e w2 ⟨rfl, rfl⟩
    cases z
    · have HR : Hid (Y = s) := HR0.out
      go_wp2
      go_ret
      exact ⟨congrArg (fun q => Ending.returned (.int .i64 q)) HR.out.symm, Since.after Hb0.out hs1⟩
    · have HR : Hid (Y = leastB ds) := HR0.out
      go_wp2_with fail
      refine (leastFree_any _ ds w1 HI.out).mono ?_
      rintro e w2 ⟨rfl, rfl⟩
      go_wp2
      go_ret
      exact ⟨congrArg (fun q => Ending.returned (.int .i64 q)) HR.out.symm, Since.after Hb0.out hs1⟩
  have b2 : (r == 2) = false := by simpa using h2
  by_cases h3 : r = 3
  · subst h3
    have HR0 : Hid (Y = if hasB ds 1 = true then 0 else 1) := by show _ = _; rw [HY.out, if_neg h1, if_neg h2, if_pos rfl]
    go_enter Tryz.func55, Tryz.ntmps55
    go_upto_region 1 with (fail)
    rw [← Hw0.out]
    go_wp2_with fail
    refine Hcall.out.mono ?_
    rintro e w1 ⟨u, rfl, ho, hb⟩
    have hs1 : Since w0 w1 := hb
    have HI := Lib.hid ho.ints
    obtain ⟨z, hz⟩ : ∃ z, z = hasB ds 1 := ⟨_, rfl⟩
    rw [← hz] at HR0
    have Hz := Lib.hid hz
    obtain ⟨Bu, du, rfl, _⟩ := id ho.ints
    clear hb ho hs0 hz
    go_wp2_with fail
    refine (containsI_any _ ds 1 w1 HI.out).mono ?_
    rw [← Hz.out]
    rintro e w2 ⟨rfl, rfl⟩
    have HR : Hid (Y = if (!z) = true then 1 else 0) := by show _ = _; rw [HR0.out]; cases z <;> rfl
    go_wp2_with fail
    refine (oneIf_any (!z) w1).mono ?_
    rintro e w2 ⟨rfl, rfl⟩
    obtain ⟨q, hq⟩ : ∃ q : Int, q = if (!z) = true then 1 else 0 := ⟨_, rfl⟩
    rw [← hq] at HR ⊢
    clear hq
    go_wp2
    go_ret
    exact ⟨congrArg (fun q => Ending.returned (.int .i64 q)) HR.out.symm, Since.after Hb0.out hs1⟩
  have b3 : (r == 3) = false := by simpa using h3
  by_cases h4 : r = 4
  · subst h4
    have HR : Hid (Y = matchB ls (rowOf n v) s) := by show _ = _; rw [HY.out, if_neg h1, if_neg h2, if_neg h3, if_pos rfl]
    go_enter Tryz.func55, Tryz.ntmps55
    go_upto_region 1 with (fail)
    rw [← Hw0.out]
    go_wp2_with fail
    refine Hcall.out.mono ?_
    rintro e w1 ⟨u, rfl, ho, hb⟩
    have hs1 : Since w0 w1 := hb
    clear hb ho hs0
    go_wp2_with fail
    refine (nextMatching_any _ _ _ _ n ls v w1 (H.out.keep hs1.below) (HL.out.keep hs1.below) Hs.out hv).mono ?_
    rw [hg.out, ← HR.out]
    rintro e w2 ⟨rfl, hb2⟩
    have Hs2 := Lib.hid (hs1.trans hb2)
    clear hb2 hs1
    go_wp2
    go_ret
    exact ⟨rfl, Since.after Hb0.out Hs2.out⟩
  have b4 : (r == 4) = false := by simpa using h4
  obtain rfl : r = 5 := by omega
  have HR : Hid (Y = tokenB n ls v) := by show _ = _; rw [HY.out, if_neg h1, if_neg h2, if_neg h3, if_neg h4]
  go_enter Tryz.func55, Tryz.ntmps55
  go_upto_region 1 with (fail)
  rw [← Hw0.out]
  go_wp2_with fail
  refine Hcall.out.mono ?_
  rintro e w1 ⟨u, rfl, ho, hb⟩
  have hs1 : Since w0 w1 := hb
  clear hb ho hs0
  go_wp2_with fail
  refine (nextToken_any _ _ _ _ n ls v w1 (H.out.keep hs1.below) (HL.out.keep hs1.below) Hs.out hv).mono ?_
  rw [← HR.out]
  rintro e w2 ⟨rfl, hb2⟩
  have Hs2 := Lib.hid (hs1.trans hb2)
  clear hb2 hs1
  go_wp2
  go_ret
  exact ⟨rfl, Since.after Hb0.out Hs2.out⟩
set_option maxRecDepth 100000 in
set_option maxHeartbeats 1600000 in
theorem ssNext_any (ve vi vn vl : Value) (n : Net) (r : Int) (ls : List Int) (v : Nat) (w : World) (h : NetIn w ve vi vn n) (hl : IntS w vl ls) (hs : SitP n r ls) (hv : v < n.ends.length) :
    Calls Tryz.prog 51 #[.agg #[ve, vi, vn], .int .i64 r, vl, .int .i64 v] w fun e w' => e = .returned (.int .i64 (nextB n r ls v)) ∧ Below w.heap.size w w' := by
  have HL0 := Lib.hid hl
  obtain ⟨AL, cL, rfl, hlL, hmL, _⟩ := hl
  unfold maxLen at hmL
  have hnl := netOk_len hs.net
  obtain ⟨w0, hw0⟩ : ∃ w0, w0 = (w).alloc (.cells #[ve, vi, vn] 31) := ⟨_, rfl⟩
  have hb0 : Below w.heap.size w w0 := by rw [hw0]; exact ((Below.refl _ _).alloc (by simp) _)
  have H := Lib.hid (h.keep hb0)
  obtain ⟨h1, h2, h3⟩ := h.keep hb0
  obtain ⟨A, c, rfl, hlc, hm, hA⟩ := h1
  obtain ⟨A2, c2, rfl, _, hm2, _⟩ := h2
  obtain ⟨A3, c3, rfl, _, hm3, _⟩ := h3
  unfold maxLen at hm hm2 hm3
  have p00 : ∀ W, Since w0 W → W.cell? ⟨w.heap.size, 0, none⟩ = some (.slice A n.ends.length c) := have_cell (by rw [hw0]; simp)
  have p01 : ∀ W, Since w0 W → W.cell? ⟨w.heap.size, 1, none⟩ = some (.slice A2 n.ids.length c2) := have_cell (by rw [hw0]; simp)
  have p02 : ∀ W, Since w0 W → W.cell? ⟨w.heap.size, 2, none⟩ = some (.slice A3 n.inputs.length c3) := have_cell (by rw [hw0]; simp)
  have Hb0 := Lib.hid hb0
  have Hw0 := Lib.hid hw0
  have HA := Lib.hid hA
  clear hA h
  clear hb0 hw0
  have HL := Lib.hid (HL0.out.keep Hb0.out)
  have Hs := Lib.hid hs
  obtain ⟨row1, row2, row3⟩ := hs.row hv
  have hle := rowOf_le hs hv
  obtain ⟨ds, hds⟩ : ∃ ds, ds = nearB ls (rowOf n v) := ⟨_, rfl⟩
  have hn1 := Lib.hid (neNear_any _ _ _ n v (rowOf n v) w0 H.out row1 hle)
  have hn2 : Hid (∀ W u, IntS W u ((rowOf n v).map (·.1)) → Since w0 W → Calls Tryz.prog 111 #[.slice AL ls.length cL, u] W fun e w' => ∃ u, e = .returned u ∧ Own w' W.heap.size u ds ∧ Below W.heap.size W w') := fun W u hu hW => by
    have := coThrough_any _ _ ls ((rowOf n v).map (·.1)) W (HL.out.keep hW.below) hu (by simpa using hle) (fun x hx => by obtain ⟨e, he, rfl⟩ := List.mem_map.1 hx; exact (row3 e he).1)
    rw [List.map_map] at this
    rw [hds]; exact this
  obtain ⟨ms, hms⟩ : ∃ ms, ms = (rowOf n v).map (·.1) := ⟨_, rfl⟩
  rw [← hms] at hn1 hn2
  clear hms
  have Hdb := Lib.hid (show ∀ x ∈ ds, 0 ≤ x ∧ x ≤ 40 by rw [hds]; exact hs.near hv)
  have Hdl : Hid (ds.length ≤ 6) := by show _ ≤ _; rw [hds]; simpa [nearB] using row2
  have hll := hs.len
  obtain ⟨m2', bl', ol', cl', s, e0, hvl2, hm2, hg0', hg1', hd4⟩ := lab_at HL.out (x := (v : Int)) (by omega) (by omega)
  cases hvl2
  obtain rfl : v = m2' := by omega
  have t4 := have_cell hd4
  rw [Int.toNat_natCast] at hg1'
  have hlo := hs.lo
  have hhi := hs.hi
  obtain ⟨Y, hY⟩ : ∃ Y, Y = nextB n r ls v := ⟨_, rfl⟩
  rw [← hY]
  have HY : Hid (Y = if r = 1 then treeB n ls v else if r = 2 then (if hasB ds s = true then leastB ds else s) else if r = 3 then (if hasB ds 1 = true then 0 else 1) else if r = 4 then matchB ls (rowOf n v) s else tokenB n ls v) := by
    show _ = _; rw [hY]; unfold nextB; rw [← hds, hg1']
  have hg := Lib.hid hg1'
  have hs0 : Since w0 w0 := since_refl _
  obtain ⟨bi, oi, ci, hvi, hil, hci⟩ := inp_at H.out hs.net hv
  cases hvi
  have ti := have_cell hci
  obtain ⟨xi, hxi⟩ : ∃ x, x = n.inputs.getD v 0 := ⟨_, rfl⟩
  rw [← hxi] at ti
  have HRT : Hid (treeB n ls v = if xi = 1 then 0 else ds.foldl treeStep (n.ends.length : Int)) := by show _ = _; unfold treeB; rw [← hxi, ← hds]
  have Hxi := Lib.hid hxi
  have Hll := Lib.hid hll
  clear hY hds hd4 hg0' hg1' e0 hle hs hci hxi hll
  by_cases h1 : r = 1
  · subst h1
    have HR : Hid (Y = if xi = 1 then 0 else ds.foldl treeStep (n.ends.length : Int)) := by show _ = _; rw [HY.out, if_pos rfl, HRT.out]
    clear HY row1 row2 row3
    go_enter Tryz.func51, Tryz.ntmps51
    go_upto_region 1 with (fail)
    rw [← Hw0.out]
    go_wp2_with fail
    refine hn1.out.mono ?_
    rintro e w1 ⟨u, rfl, ho, hb⟩
    have hs1 : Since w0 w1 := hb
    have HI := Lib.hid ho.ints
    obtain ⟨Bu, du, rfl, _⟩ := id ho.ints
    clear hb ho hs0
    go_wp2_with fail
    refine (hn2.out w1 _ HI.out hs1).mono ?_
    rintro e w2 ⟨u2, rfl, ho2, hb2⟩
    have hs2 : Since w0 w2 := hs1.trans hb2
    have hI := ho2.ints
    obtain ⟨Bv, dv, rfl, hdl2, hdm, hdc⟩ := hI
    unfold maxLen at hdm
    have Hdc := Lib.hid hdc
    clear hb2 ho2 hs1 hdc
    cases hx1 : (xi == 1)
    · have HR2 : Hid (Y = ds.foldl treeStep (n.ends.length : Int)) := by show _ = _; rw [HR.out, if_neg (by simpa using hx1)]
      go_wp2
      go_loopw [11, 35] (fun a i wr => ∃ (k : Nat) (q : Int), k ≤ ds.length ∧ i = .int .i64 k ∧ a = .int .i64 q ∧ 0 ≤ q ∧ q ≤ 40 ∧ (ds.drop k).foldl treeStep q = Y ∧ Since w2 wr) (fun _ i _ => ds.length - (intOf i).toNat)
      case atStart => exact ⟨0, n.ends.length, Nat.zero_le _, rfl, rfl, by omega, by omega, by rw [HR2.out, List.drop_zero], since_refl _⟩
      case round =>
        obtain ⟨k, q, hk, rfl, rfl, hq0, hq1, hf, hsr⟩ := hrel
        have Hf := Lib.hid hf
        clear hf
        by_cases hlt : k < ds.length
        · obtain ⟨x, hx⟩ := getx ds k hlt
          obtain ⟨b5, off5, rfl, hcell⟩ := Hdc.out k x hx
          have hxb := Hdb.out x (List.mem_of_getElem? hx)
          have d0 := hsr.cell hcell
          have m1 : IntKind.i64.wrap (x + 1) = x + 1 := wr64 _ (by omega) (by omega)
          have m3 : IntKind.i64.wrap ((k : Int) + 1) = (k : Int) + 1 := wr64 _ (by omega) (by omega)
          obtain ⟨q2, hq2⟩ : ∃ q2, q2 = least1 q (x + 1) := ⟨_, rfl⟩
          have Hc : Hid (Calls Tryz.prog 113 #[.int .i64 q, .int .i64 (x + 1)] wr fun e w' => e = .returned (.int .i64 q2) ∧ wr = w') := by rw [hq2]; exact l1Least_any q (x + 1) wr
          have hq2b : 0 ≤ q2 ∧ q2 ≤ 40 := by rw [hq2]; unfold least1; split <;> omega
          have Hn : Hid ((ds.drop (k + 1)).foldl treeStep q2 = Y) := by
            show _ = _
            rw [← Hf.out]
            obtain ⟨hk2, e⟩ := List.getElem?_eq_some_iff.1 hx
            rw [List.drop_eq_getElem_cons hk2, List.foldl_cons, e, hq2]; rfl
          clear hx hcell hq2
          go_wp2_with fail
          refine Hc.out.mono ?_
          rintro e w5 ⟨rfl, rfl⟩
          go_wp2
          go_roundw
          case rel => exact ⟨k + 1, q2, by omega, by go_num, rfl, hq2b.1, hq2b.2, Hn.out, hsr⟩
          case measure => simp [intOf]; omega
        · obtain rfl : k = ds.length := by omega
          have Hr : Hid (Y = q) := by show _ = _; rw [← Hf.out, List.drop_length]; rfl
          go_wp2
          go_ret
          exact ⟨congrArg (fun q => Ending.returned (.int .i64 q)) Hr.out.symm, Since.after Hb0.out (hs2.after hsr)⟩
    · have HR2 : Hid (Y = 0) := by show _ = _; rw [HR.out, if_pos (by simpa using hx1)]
      go_wp2
      go_ret
      exact ⟨congrArg (fun q => Ending.returned (.int .i64 q)) HR2.out.symm, Since.after Hb0.out hs2⟩
  have b1 : (r == 1) = false := by simpa using h1
  by_cases h2 : r = 2
  · subst h2
    have HR0 : Hid (Y = if hasB ds s = true then leastB ds else s) := by show _ = _; rw [HY.out, if_neg h1, if_pos rfl]
    clear HY row1 row2 row3
    go_enter Tryz.func51, Tryz.ntmps51
    go_upto_region 1 with (fail)
    rw [← Hw0.out]
    go_wp2_with fail
    refine hn1.out.mono ?_
    rintro e w1 ⟨u, rfl, ho, hb⟩
    have hs1 : Since w0 w1 := hb
    have HI := Lib.hid ho.ints
    obtain ⟨Bu, du, rfl, _⟩ := id ho.ints
    clear hb ho hs0
    go_wp2_with fail
    refine (hn2.out w1 _ HI.out hs1).mono ?_
    rintro e w2 ⟨u2, rfl, ho2, hb2⟩
    have hs2 : Since w0 w2 := hs1.trans hb2
    have HI2 := Lib.hid ho2.ints
    obtain ⟨Bv, dv, rfl, _⟩ := id ho2.ints
    clear hb2 ho2 hs1
    obtain ⟨z, hz⟩ : ∃ z, z = hasB ds s := ⟨_, rfl⟩
    rw [← hz] at HR0
    have Hz := Lib.hid hz
    clear hz
    go_wp2_with fail
    refine (l1Has_any _ ds s w2 HI2.out).mono ?_
    rw [← Hz.out]
    rintro e w3 ⟨rfl, rfl⟩
    cases z
    · have HR : Hid (Y = s) := HR0.out
      go_wp2
      go_ret
      exact ⟨congrArg (fun q => Ending.returned (.int .i64 q)) HR.out.symm, Since.after Hb0.out hs2⟩
    · have HR : Hid (Y = leastB ds) := HR0.out
      go_wp2_with fail
      refine (clLeast_any _ ds w2 HI2.out).mono ?_
      rintro e w3 ⟨rfl, rfl⟩
      go_wp2
      go_ret
      exact ⟨congrArg (fun q => Ending.returned (.int .i64 q)) HR.out.symm, Since.after Hb0.out hs2⟩
  have b2 : (r == 2) = false := by simpa using h2
  by_cases h3 : r = 3
  · subst h3
    have HR0 : Hid (Y = if hasB ds 1 = true then 0 else 1) := by show _ = _; rw [HY.out, if_neg h1, if_neg h2, if_pos rfl]
    clear HY row1 row2 row3
    go_enter Tryz.func51, Tryz.ntmps51
    go_upto_region 1 with (fail)
    rw [← Hw0.out]
    go_wp2_with fail
    refine hn1.out.mono ?_
    rintro e w1 ⟨u, rfl, ho, hb⟩
    have hs1 : Since w0 w1 := hb
    have HI := Lib.hid ho.ints
    obtain ⟨Bu, du, rfl, _⟩ := id ho.ints
    clear hb ho hs0
    go_wp2_with fail
    refine (hn2.out w1 _ HI.out hs1).mono ?_
    rintro e w2 ⟨u2, rfl, ho2, hb2⟩
    have hs2 : Since w0 w2 := hs1.trans hb2
    have HI2 := Lib.hid ho2.ints
    obtain ⟨Bv, dv, rfl, _⟩ := id ho2.ints
    clear hb2 ho2 hs1
    obtain ⟨z, hz⟩ : ∃ z, z = hasB ds 1 := ⟨_, rfl⟩
    rw [← hz] at HR0
    have Hz := Lib.hid hz
    clear hz
    go_wp2_with fail
    refine (l1Has_any _ ds 1 w2 HI2.out).mono ?_
    rw [← Hz.out]
    rintro e w3 ⟨rfl, rfl⟩
    cases z
    · have HR : Hid (Y = 1) := HR0.out
      go_wp2
      go_ret
      exact ⟨congrArg (fun q => Ending.returned (.int .i64 q)) HR.out.symm, Since.after Hb0.out hs2⟩
    · have HR : Hid (Y = 0) := HR0.out
      go_wp2
      go_ret
      exact ⟨congrArg (fun q => Ending.returned (.int .i64 q)) HR.out.symm, Since.after Hb0.out hs2⟩
  have b3 : (r == 3) = false := by simpa using h3
  by_cases h4 : r = 4
  · subst h4
    have HR : Hid (Y = matchB ls (rowOf n v) s) := by show _ = _; rw [HY.out, if_neg h1, if_neg h2, if_neg h3, if_pos rfl]
    clear HY row1 row2 row3
    go_enter Tryz.func51, Tryz.ntmps51
    go_upto_region 1 with (fail)
    rw [← Hw0.out]
    go_wp2_with fail
    refine hn1.out.mono ?_
    rintro e w1 ⟨u, rfl, ho, hb⟩
    have hs1 : Since w0 w1 := hb
    have HI := Lib.hid ho.ints
    obtain ⟨Bu, du, rfl, _⟩ := id ho.ints
    clear hb ho hs0
    go_wp2_with fail
    refine (hn2.out w1 _ HI.out hs1).mono ?_
    rintro e w2 ⟨u2, rfl, ho2, hb2⟩
    have hs2 : Since w0 w2 := hs1.trans hb2
    clear hb2 ho2 hs1
    go_wp2_with fail
    refine (ssMatch_any _ _ _ _ n ls v w2 (H.out.keep hs2.below) (HL.out.keep hs2.below) Hs.out hv).mono ?_
    rw [hg.out, ← HR.out]
    rintro e w3 ⟨rfl, hb3⟩
    have Hs3 := Lib.hid (hs2.trans hb3)
    clear hb3 hs2
    go_wp2
    go_ret
    exact ⟨rfl, Since.after Hb0.out Hs3.out⟩
  have b4 : (r == 4) = false := by simpa using h4
  obtain rfl : r = 5 := by omega
  have HR0 : Hid (Y = tokenB n ls v) := by show _ = _; rw [HY.out, if_neg h1, if_neg h2, if_neg h3, if_neg h4]
  obtain ⟨es, hes⟩ : ∃ es, es = rowOf n v := ⟨_, rfl⟩
  have h2' := Hs.out.ring hv
  have hst := Hs.out.st v hv
  have hcb := countB_le Hs.out.net (r := 5) hv
  rw [← hes] at row1 row3 h2'
  obtain ⟨b, offr, cr, ur, hA1, hkr, hc1, hrow⟩ := row_at H.out.es row1
  cases hA1
  have tr := have_cell hc1
  obtain ⟨A1, z1, rfl, hz1, hz2, hA1⟩ := hrow
  unfold maxLen at hz2
  obtain ⟨⟨x1, x2⟩, hx⟩ := getx es 1 (by omega)
  obtain ⟨b1', off1, rfl, hd1, hd2⟩ := hA1 1 _ hx
  have t1 := have_cell hd1
  obtain ⟨⟨i1, i2⟩, -⟩ := row3 _ (List.mem_of_getElem? hx)
  simp only at i1 i2
  obtain ⟨m1', bl, ol, cl, y, rfl, hvl, hm1, hg0, hg1, hd3⟩ := lab_at HL.out i1 i2
  cases hvl
  have t3 := have_cell hd3
  rw [hg.out] at hst
  have HB : Hid (beforeB n ls v = y) := by show _ = _; unfold beforeB; rw [← hes, getD_of hx]; exact hg1
  have HR : Hid (Y = if xi = 1 then (if s = y then (s + 1) % ((n.ends.length : Int) + 1) else s) else y) := by show _ = _; rw [HR0.out]; unfold tokenB; rw [HB.out, ← Hxi.out, hg.out]
  have m1 : IntKind.i64.wrap (s + 1) = s + 1 := wr64 _ (by omega) (by omega)
  have m2 : IntKind.i64.wrap ((n.ends.length : Int) + 1) = (n.ends.length : Int) + 1 := wr64 _ (by omega) (by omega)
  have hlt2 : 1 < es.length := by omega
  have hz0 : ((n.ends.length : Int) + 1 = 0) = False := by simp; omega
  clear HY row1 row2 row3 hx hd1 hd2 hd3 hg0 hg1 hA1 hes hc1 HR0
  go_enter Tryz.func51, Tryz.ntmps51
  go_upto_region 1 with (fail)
  rw [← Hw0.out]
  go_wp2_with fail
  refine hn1.out.mono ?_
  rintro e w1 ⟨u, rfl, ho, hb⟩
  have hs1 : Since w0 w1 := hb
  have HI := Lib.hid ho.ints
  obtain ⟨Bu, du, rfl, _⟩ := id ho.ints
  clear hb ho hs0
  go_wp2_with fail
  refine (hn2.out w1 _ HI.out hs1).mono ?_
  rintro e w2 ⟨u2, rfl, ho2, hb2⟩
  have hs2 : Since w0 w2 := hs1.trans hb2
  clear hb2 ho2 hs1
  cases hx1 : (xi == 1)
  · have HR2 : Hid (Y = y) := by show _ = _; rw [HR.out, if_neg (by simpa using hx1)]
    have hx1' : (xi != 1) = true := by simp [bne, hx1]
    clear hx1
    go_wp2
    go_ret
    exact ⟨congrArg (fun q => Ending.returned (.int .i64 q)) HR2.out.symm, Since.after Hb0.out hs2⟩
  · have hx1' : (xi != 1) = false := by simp [bne, hx1]
    cases hy : (s == y)
    · have HR2 : Hid (Y = s) := by show _ = _; rw [HR.out, if_pos (by simpa using hx1), if_neg (by simpa using hy)]
      have hy' : (y == s) = false := by rw [← hy, Bool.eq_iff_iff]; simp; exact eq_comm
      clear hx1 hy
      go_wp2
      go_ret
      exact ⟨congrArg (fun q => Ending.returned (.int .i64 q)) HR2.out.symm, Since.after Hb0.out hs2⟩
    · have hy' : (y == s) = true := by rw [← hy, Bool.eq_iff_iff]; simp; exact eq_comm
      have HR2 : Hid (Y = (s + 1) % ((n.ends.length : Int) + 1)) := by
        show _ = _
        rw [HR.out, if_pos (by simpa using hx1), if_pos (by simpa using hy)]
      clear hx1 hy
      go_wp2
      go_ret
      exact ⟨congrArg (fun q => Ending.returned (.int .i64 q)) HR2.out.symm, Since.after Hb0.out hs2⟩
end Go.Proofs.YtlfehdikgbgloaaGreat
