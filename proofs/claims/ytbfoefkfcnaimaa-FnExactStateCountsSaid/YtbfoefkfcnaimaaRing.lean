import Derived.Test.YtbfoefkfcnaimaaEdges3
import Derived.Test.YtbfoefkfcnaimaaBfs2
import Derived.Test.YtbfoefkfcnaimaaVer6
namespace Go.Proofs.Ytbfoefkfcnaimaa
open Go.RowKit
def connB (n : Net) : Bool := !(distB n 0).contains (-1)
theorem meConnected_any (ve vi vn : Value) (n : Net) (w : World) (h : NetIn w ve vi vn n) (hn : netOk n = true) :
    Calls Try.prog 162 #[.agg #[ve, vi, vn]] w fun e w' => e = .returned (.bool (connB n)) ∧ Below w.heap.size w w' := by
  obtain ⟨w0, hw0⟩ : ∃ w0, w0 = (w).alloc (.cells #[ve, vi, vn] 31) := ⟨_, rfl⟩
  have hb0 : Below w.heap.size w w0 := by rw [hw0]; exact ((Below.refl _ _).alloc (by simp) _)
  have H := Lib.hid (h.keep hb0)
  obtain ⟨h1, h2, h3⟩ := h.keep hb0
  obtain ⟨A, c, rfl, hlc, hm, hA⟩ := h1
  obtain ⟨A2, c2, rfl, _, hm2, _⟩ := h2
  obtain ⟨A3, c3, rfl, _, hm3, _⟩ := h3
  unfold maxLen at hm hm2 hm3
  have p00 : ∀ W, Since w0 W → W.cell? ⟨w.heap.size, 0, none⟩ = some (.slice A n.ends.length c) := have_cell (by rw [hw0]; simp)
  have p01 : ∀ W, Since w0 W → W.cell? ⟨w.heap.size, 1, none⟩ = some (.slice A2 n.ids.length c2) := have_cell (by rw [hw0]; simp)
  have p02 : ∀ W, Since w0 W → W.cell? ⟨w.heap.size, 2, none⟩ = some (.slice A3 n.inputs.length c3) := have_cell (by rw [hw0]; simp)
  have Hb0 := Lib.hid hb0
  have Hw0 := Lib.hid hw0
  have HA := Lib.hid hA
  clear hA h
  clear hb0 hw0
  have Hn := Lib.hid hn
  have hnl := netOk_len hn
  have Hce := Lib.hid (conn_eq hn (v := 0) (by omega) hnl.2)
  obtain ⟨y, hy⟩ : ∃ y, y = connB n := ⟨_, rfl⟩
  have Hy := Lib.hid hy
  rw [← hy]
  have hs0 : Since w0 w0 := since_refl _
  clear hn hy
  go_enter Try.func162, Try.ntmps162
  go_upto_region 1 with (fail)
  rw [← Hw0.out]
  go_wp2_with fail
  refine (meFrom_any _ _ _ n 0 w0 H.out Hn.out (by omega)).mono ?_
  rintro e w1 ⟨u, rfl, ho, hb⟩
  obtain ⟨ds, hds⟩ : ∃ ds, ds = distB n 0 := ⟨_, rfl⟩
  rw [← hds] at ho
  have hcall := l1All_any u ds 0 40 w1 ho.ints
  rw [hds, Hce.out, show (!(distB n 0).contains (-1)) = connB n from rfl, ← Hy.out] at hcall
  have Hcall := Lib.hid hcall
  have Hs1 : Hid (Since w0 w1) := hb
  obtain ⟨Bu, du, rfl, _⟩ := id ho.ints
  clear hcall ho hb hs0 hds
  go_wp2_with fail
  refine Hcall.out.mono ?_
  rintro e w2 ⟨rfl, rfl⟩
  go_wp2
  go_ret
  exact ⟨rfl, Since.after Hb0.out Hs1.out⟩
theorem isConnected_any (ve vi vn : Value) (n : Net) (w : World) (h : NetIn w ve vi vn n) (hn : netOk n = true) :
    Calls Try.prog 166 #[.agg #[ve, vi, vn]] w fun e w' => e = .returned (.bool (connB n)) ∧ Below w.heap.size w w' := by
  obtain ⟨w0, hw0⟩ : ∃ w0, w0 = (w).alloc (.cells #[ve, vi, vn] 31) := ⟨_, rfl⟩
  have hb0 : Below w.heap.size w w0 := by rw [hw0]; exact ((Below.refl _ _).alloc (by simp) _)
  have H := Lib.hid (h.keep hb0)
  obtain ⟨h1, h2, h3⟩ := h.keep hb0
  obtain ⟨A, c, rfl, hlc, hm, hA⟩ := h1
  obtain ⟨A2, c2, rfl, _, hm2, _⟩ := h2
  obtain ⟨A3, c3, rfl, _, hm3, _⟩ := h3
  unfold maxLen at hm hm2 hm3
  have p00 : ∀ W, Since w0 W → W.cell? ⟨w.heap.size, 0, none⟩ = some (.slice A n.ends.length c) := have_cell (by rw [hw0]; simp)
  have p01 : ∀ W, Since w0 W → W.cell? ⟨w.heap.size, 1, none⟩ = some (.slice A2 n.ids.length c2) := have_cell (by rw [hw0]; simp)
  have p02 : ∀ W, Since w0 W → W.cell? ⟨w.heap.size, 2, none⟩ = some (.slice A3 n.inputs.length c3) := have_cell (by rw [hw0]; simp)
  have Hb0 := Lib.hid hb0
  have Hw0 := Lib.hid hw0
  have HA := Lib.hid hA
  clear hA h
  clear hb0 hw0
  have Hn := Lib.hid hn
  have hnl := netOk_len hn
  obtain ⟨y, hy⟩ : ∃ y, y = hasB (distB n 0) (-1) := ⟨_, rfl⟩
  have Hy := Lib.hid hy
  rw [show connB n = !hasB (distB n 0) (-1) from rfl, ← hy]
  have hs0 : Since w0 w0 := since_refl _
  clear hn hy
  go_enter Try.func166, Try.ntmps166
  go_upto_region 1 with (fail)
  rw [← Hw0.out]
  go_wp2_with fail
  refine (distancesFrom_any _ _ _ n 0 w0 H.out Hn.out (by omega)).mono ?_
  rintro e w1 ⟨u, rfl, ho, hb⟩
  obtain ⟨ds, hds⟩ : ∃ ds, ds = distB n 0 := ⟨_, rfl⟩
  rw [← hds] at ho
  have hcall := containsI_any u ds (-1) w1 ho.ints
  rw [hds, ← Hy.out] at hcall
  have Hcall := Lib.hid hcall
  have Hs1 : Hid (Since w0 w1) := hb
  obtain ⟨Bu, du, rfl, _⟩ := id ho.ints
  clear hcall ho hb hs0 hds
  go_wp2_with fail
  refine Hcall.out.mono ?_
  rintro e w2 ⟨rfl, rfl⟩
  go_wp2
  go_ret
  exact ⟨rfl, Since.after Hb0.out Hs1.out⟩
def onesB (xs : List Int) : Nat := xs.countP fun x => x == 1
theorem onesB_le (xs : List Int) : onesB xs ≤ xs.length := List.countP_le_length
theorem onesB_snoc {xs : List Int} {k : Nat} {x : Int} (h : xs[k]? = some x) : onesB (xs.take (k + 1)) = onesB (xs.take k) + if x = 1 then 1 else 0 := by
  unfold onesB
  rw [take_snoc h, List.countP_append]
  congr 1
  by_cases hx : x = 1 <;> simp [hx]
set_option maxHeartbeats 2000000 in
theorem ones_any (v : Value) (xs : List Int) (w : World) (h : IntS w v xs) (hl : xs.length ≤ 1000000) :
    Calls Try.prog 167 #[v] w fun e w' => e = .returned (.int .i64 (onesB xs)) ∧ Below w.heap.size w w' := by
  obtain ⟨A, c, rfl, hlc, hm, hA⟩ := h
  unfold maxLen at hm
  have HA := Lib.hid hA
  clear hA
  go_enter Try.func167, Try.ntmps167
  go_wp2
  go_loopw [3, 8] (fun q i wr => ∃ k : Nat, k ≤ xs.length ∧ i = .int .i64 k ∧ q = .int .i64 (onesB (xs.take k)) ∧ Since w wr) (fun _ i _ => xs.length - (intOf i).toNat)
  case atStart => exact ⟨0, Nat.zero_le _, rfl, rfl, since_refl _⟩
  case round =>
    obtain ⟨k, hk, rfl, rfl, hb⟩ := hrel
    by_cases hlt : k < xs.length
    · obtain ⟨x, hx⟩ := getx xs k hlt
      obtain ⟨b, off, rfl, hcell⟩ := HA.out k x hx
      have d0 := hb.cell hcell
      obtain ⟨q, hq⟩ : ∃ q, q = onesB (xs.take k) := ⟨_, rfl⟩
      have hqk : q ≤ k := by rw [hq]; have := onesB_le (xs.take k); rw [List.length_take] at this; omega
      obtain ⟨bz, hbz⟩ : ∃ b : Bool, b = (x == 1) := ⟨_, rfl⟩
      obtain ⟨d, hd⟩ : ∃ d : Int, d = if bz = true then 1 else 0 := ⟨_, rfl⟩
      have hdb : 0 ≤ d ∧ d ≤ 1 := by rw [hd]; split <;> omega
      have hc := oneIf_any bz wr
      rw [← hd] at hc
      have Hc := Lib.hid hc
      have Hn : Hid ((onesB (xs.take (k + 1)) : Int) = q + d) := by
        show _ = _
        rw [onesB_snoc hx, hd, hbz, ← hq]
        by_cases h1 : x = 1 <;> simp [h1]
      have Hbz := Lib.hid hbz
      have hxb : (x == 1) = bz := hbz.symm
      have m1 : IntKind.i64.wrap ((q : Int) + d) = (q : Int) + d := wr64 _ (by omega) (by omega)
      have m3 : IntKind.i64.wrap ((k : Int) + 1) = (k : Int) + 1 := wr64 _ (by omega) (by omega)
      rw [← hq]
      clear hx hcell hq hbz hd hc
      go_wp2_with fail
      refine Hc.out.mono ?_
      rintro e w1 ⟨rfl, rfl⟩
      clear d0 hxb
      go_wp2
      go_roundw
      case rel => exact ⟨k + 1, by omega, by go_num, by rw [Hn.out], hb⟩
      case measure => simp [intOf]; omega
    · obtain rfl : k = xs.length := by omega
      have Hr : Hid (onesB (xs.take xs.length) = onesB xs) := by show _ = _; rw [List.take_length]
      go_wp2
      go_ret
      exact ⟨congrArg (fun q : Nat => Ending.returned (.int .i64 q)) Hr.out, hb⟩
end Go.Proofs.Ytbfoefkfcnaimaa
