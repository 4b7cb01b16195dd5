import Derived.Test.YtlfehdikgbgloaaGreatEdges3
import Derived.Test.YtlfehdikgbgloaaGreatBfs2
import Derived.Test.YtlfehdikgbgloaaGreatVer6
import Derived.Test.YtlfehdikgbgloaaGreatLawKit
namespace Go.Proofs.YtlfehdikgbgloaaGreat
open Go.RowKit
def connB (n : Net) : Bool := !(distB n 0).contains (-1)
theorem meConnected_any (ve vi vn : Value) (n : Net) (w : World) (h : NetIn w ve vi vn n) (hn : netOk n = true) :
    Calls Tryz.prog 212 #[.agg #[ve, vi, vn]] w fun e w' => e = .returned (.bool (connB n)) ∧ Below w.heap.size w w' := by
  obtain ⟨w0, hw0⟩ : ∃ w0, w0 = (w).alloc (.cells #[ve, vi, vn] 31) := ⟨_, rfl⟩
  have hb0 : Below w.heap.size w w0 := by rw [hw0]; exact ((Below.refl _ _).alloc (by simp) _)
  have H := Lib.hid (h.keep hb0)
  obtain ⟨h1, h2, h3⟩ := h.keep hb0
  obtain ⟨A, c, rfl, hlc, hm, hA⟩ := h1
  obtain ⟨A2, c2, rfl, _, hm2, _⟩ := h2
  obtain ⟨A3, c3, rfl, _, hm3, _⟩ := h3
  unfold maxLen at hm hm2 hm3
  have p00 : ∀ W, Since w0 W → W.cell? ⟨w.heap.size, 0, none⟩ = some (.slice A n.ends.length c) := have_cell (by rw [hw0]; simp)
  have p01 : ∀ W, Since w0 W → W.cell? ⟨w.heap.size, 1, none⟩ = some (.slice A2 n.ids.length c2) := have_cell (by rw [hw0]; simp)
  have p02 : ∀ W, Since w0 W → W.cell? ⟨w.heap.size, 2, none⟩ = some (.slice A3 n.inputs.length c3) := have_cell (by rw [hw0]; simp)
  have Hb0 := Lib.hid hb0
  have Hw0 := Lib.hid hw0
  have HA := Lib.hid hA
  clear hA h
  clear hb0 hw0
  have Hn := Lib.hid hn
  have hnl := netOk_len hn
  have Hce := Lib.hid (conn_eq hn (v := 0) (by omega) hnl.2)
  obtain ⟨y, hy⟩ : ∃ y, y = connB n := ⟨_, rfl⟩
  have Hy := Lib.hid hy
  rw [← hy]
  have hs0 : Since w0 w0 := since_refl _
  clear hn hy
  go_enter Tryz.func212, Tryz.ntmps212
  go_upto_region 1 with (fail)
  rw [← Hw0.out]
  go_wp2_with fail
  refine (meFrom_any _ _ _ n 0 w0 H.out Hn.out (by omega)).mono ?_
  rintro e w1 ⟨u, rfl, ho, hb⟩
  obtain ⟨ds, hds⟩ : ∃ ds, ds = distB n 0 := ⟨_, rfl⟩
  rw [← hds] at ho
  have hcall := l1All_any u ds 0 40 w1 ho.ints
  rw [hds, Hce.out, show (!(distB n 0).contains (-1)) = connB n from rfl, ← Hy.out] at hcall
  have Hcall := Lib.hid hcall
  have Hs1 : Hid (Since w0 w1) := hb
  obtain ⟨Bu, du, rfl, _⟩ := id ho.ints
  clear hcall ho hb hs0 hds
  go_wp2_with fail
  refine Hcall.out.mono ?_
  rintro e w2 ⟨rfl, rfl⟩
  go_wp2
  go_ret
  exact ⟨rfl, Since.after Hb0.out Hs1.out⟩
theorem isConnected_any (ve vi vn : Value) (n : Net) (w : World) (h : NetIn w ve vi vn n) (hn : netOk n = true) :
    Calls Tryz.prog 217 #[.agg #[ve, vi, vn]] w fun e w' => e = .returned (.bool (connB n)) ∧ Below w.heap.size w w' := by
  obtain ⟨w0, hw0⟩ : ∃ w0, w0 = (w).alloc (.cells #[ve, vi, vn] 31) := ⟨_, rfl⟩
  have hb0 : Below w.heap.size w w0 := by rw [hw0]; exact ((Below.refl _ _).alloc (by simp) _)
  have H := Lib.hid (h.keep hb0)
  obtain ⟨h1, h2, h3⟩ := h.keep hb0
  obtain ⟨A, c, rfl, hlc, hm, hA⟩ := h1
  obtain ⟨A2, c2, rfl, _, hm2, _⟩ := h2
  obtain ⟨A3, c3, rfl, _, hm3, _⟩ := h3
  unfold maxLen at hm hm2 hm3
  have p00 : ∀ W, Since w0 W → W.cell? ⟨w.heap.size, 0, none⟩ = some (.slice A n.ends.length c) := have_cell (by rw [hw0]; simp)
  have p01 : ∀ W, Since w0 W → W.cell? ⟨w.heap.size, 1, none⟩ = some (.slice A2 n.ids.length c2) := have_cell (by rw [hw0]; simp)
  have p02 : ∀ W, Since w0 W → W.cell? ⟨w.heap.size, 2, none⟩ = some (.slice A3 n.inputs.length c3) := have_cell (by rw [hw0]; simp)
  have Hb0 := Lib.hid hb0
  have Hw0 := Lib.hid hw0
  have HA := Lib.hid hA
  clear hA h
  clear hb0 hw0
  have Hn := Lib.hid hn
  have hnl := netOk_len hn
  obtain ⟨y, hy⟩ : ∃ y, y = hasB (distB n 0) (-1) := ⟨_, rfl⟩
  have Hy := Lib.hid hy
  rw [show connB n = !hasB (distB n 0) (-1) from rfl, ← hy]
  have hs0 : Since w0 w0 := since_refl _
  clear hn hy
  go_enter Tryz.func217, Tryz.ntmps217
  go_upto_region 1 with (fail)
  rw [← Hw0.out]
  go_wp2_with fail
  refine (distancesFrom_any _ _ _ n 0 w0 H.out Hn.out (by omega)).mono ?_
  rintro e w1 ⟨u, rfl, ho, hb⟩
  obtain ⟨ds, hds⟩ : ∃ ds, ds = distB n 0 := ⟨_, rfl⟩
  rw [← hds] at ho
  have hcall := containsI_any u ds (-1) w1 ho.ints
  rw [hds, ← Hy.out] at hcall
  have Hcall := Lib.hid hcall
  have Hs1 : Hid (Since w0 w1) := hb
  obtain ⟨Bu, du, rfl, _⟩ := id ho.ints
  clear hcall ho hb hs0 hds
  go_wp2_with fail
  refine Hcall.out.mono ?_
  rintro e w2 ⟨rfl, rfl⟩
  go_wp2
  go_ret
  exact ⟨rfl, Since.after Hb0.out Hs1.out⟩
def onesB (xs : List Int) : Nat := xs.countP fun x => x == 1
theorem onesB_le (xs : List Int) : onesB xs ≤ xs.length := List.countP_le_length
theorem onesB_snoc {xs : List Int} {k : Nat} {x : Int} (h : xs[k]? = some x) : onesB (xs.take (k + 1)) = onesB (xs.take k) + if x = 1 then 1 else 0 := by
  unfold onesB
  rw [take_snoc h, List.countP_append]
  congr 1
  by_cases hx : x = 1 <;> simp [hx]
set_option maxHeartbeats 2000000 in
theorem ones_any (v : Value) (xs : List Int) (w : World) (h : IntS w v xs) (_ : xs.length ≤ 1000000) :
    Calls Tryz.prog 218 #[v] w fun e w' => e = .returned (.int .i64 (onesB xs)) ∧ Below w.heap.size w w' := by
  obtain ⟨A, c, rfl, hlc, hm, hA⟩ := h
  unfold maxLen at hm
  have HA := Lib.hid hA
  clear hA
  go_enter Tryz.func218, Tryz.ntmps218
  go_wp2
  go_loopw [3, 8] (fun q i wr => ∃ k : Nat, k ≤ xs.length ∧ i = .int .i64 k ∧ q = .int .i64 (onesB (xs.take k)) ∧ Since w wr) (fun _ i _ => xs.length - (intOf i).toNat)
  case atStart => exact ⟨0, Nat.zero_le _, rfl, rfl, since_refl _⟩
  case round =>
    obtain ⟨k, hk, rfl, rfl, hb⟩ := hrel
    by_cases hlt : k < xs.length
    · obtain ⟨x, hx⟩ := getx xs k hlt
      obtain ⟨b, off, rfl, hcell⟩ := HA.out k x hx
      have d0 := hb.cell hcell
      obtain ⟨q, hq⟩ : ∃ q, q = onesB (xs.take k) := ⟨_, rfl⟩
      have hqk : q ≤ k := by rw [hq]; have := onesB_le (xs.take k); rw [List.length_take] at this; omega
      obtain ⟨bz, hbz⟩ : ∃ b : Bool, b = (x == 1) := ⟨_, rfl⟩
      obtain ⟨d, hd⟩ : ∃ d : Int, d = if bz = true then 1 else 0 := ⟨_, rfl⟩
      have hdb : 0 ≤ d ∧ d ≤ 1 := by rw [hd]; split <;> omega
      have hc := oneIf_any bz wr
      rw [← hd] at hc
      have Hc := Lib.hid hc
      have Hn : Hid ((onesB (xs.take (k + 1)) : Int) = q + d) := by
        show _ = _
        rw [onesB_snoc hx, hd, hbz, ← hq]
        by_cases h1 : x = 1 <;> simp [h1]
      have Hbz := Lib.hid hbz
      have hxb : (x == 1) = bz := hbz.symm
      have m1 : IntKind.i64.wrap ((q : Int) + d) = (q : Int) + d := wr64 _ (by omega) (by omega)
      have m3 : IntKind.i64.wrap ((k : Int) + 1) = (k : Int) + 1 := wr64 _ (by omega) (by omega)
      rw [← hq]
      clear hx hcell hq hbz hd hc
      go_wp2_with fail
      refine Hc.out.mono ?_
      rintro e w1 ⟨rfl, rfl⟩
      clear d0 hxb
      go_wp2
      go_roundw
      case rel => exact ⟨k + 1, by omega, by go_num, by rw [Hn.out], hb⟩
      case measure => simp [intOf]; omega
    · obtain rfl : k = xs.length := by omega
      have Hr : Hid (onesB (xs.take xs.length) = onesB xs) := by show _ = _; rw [List.take_length]
      go_wp2
      go_ret
      exact ⟨congrArg (fun q : Nat => Ending.returned (.int .i64 q)) Hr.out, hb⟩
end Go.Proofs.YtlfehdikgbgloaaGreat
namespace Go.Proofs.YtlfehdikgbgloaaGreat
open Go.RowKit
def rowBad (es : List (Int × Int)) : Bool := ((es.length : Int) != 2) || ((es.getD 0 (0, 0)).2 != 1)
def PredR (w0 : World) (fid : FuncId) (caps : Array Value) (p : List (Int × Int) → Bool) (xs : List (List (Int × Int))) : Prop :=
  ∀ x ∈ xs, ∀ w u, Since w0 w → EndS w u x → Calls Tryz.prog fid (#[u] ++ caps) w fun e w' => e = .returned (.bool (p x)) ∧ Below w.heap.size w w'
def ridx (p : List (Int × Int) → Bool) (xs : List (List (Int × Int))) : Int := match xs.findIdx? p with | some i => (i : Int) | none => -1
section
variable {α : Type} {p : α → Bool} {xs : List α}
theorem fi_none (h : xs.any p = false) : xs.findIdx? p = none := by
  rw [List.findIdx?_eq_none_iff]
  intro x hx
  rw [List.any_eq_false] at h
  simpa using h x hx
theorem fi_found {k : Nat} {x : α} (hx : xs[k]? = some x) (hp : p x = true) (h : (xs.take k).any p = false) : xs.findIdx? p = some k := by
  obtain ⟨hk, rfl⟩ := List.getElem?_eq_some_iff.1 hx
  rw [List.findIdx?_eq_some_iff_getElem]
  refine ⟨hk, hp, fun j hj => ?_⟩
  rw [List.any_eq_false] at h
  have := h xs[j] (List.mem_take_iff_getElem.2 ⟨j, by omega, rfl⟩)
  simpa using this
theorem any_snoc' {k : Nat} {x : α} (hx : xs[k]? = some x) (h : (xs.take k).any p = false) (hp : p x = false) : (xs.take (k + 1)).any p = false := by
  rw [take_snoc hx, List.any_append, h]
  simp [hp]
end
theorem ridx_any (p : List (Int × Int) → Bool) (xs : List (List (Int × Int))) : decide (0 ≤ ridx p xs) = xs.any p := by
  unfold ridx
  cases h : xs.any p with
  | false => rw [fi_none h]; rfl
  | true =>
    cases h2 : xs.findIdx? p with
    | none =>
      rw [List.findIdx?_eq_none_iff] at h2
      rw [List.any_eq_true] at h
      obtain ⟨x, hx, hp⟩ := h
      rw [h2 x hx] at hp; cases hp
    | some i => simp
set_option maxHeartbeats 4000000 in
theorem indexFuncR_any (v : Value) (xs : List (List (Int × Int))) (fid : FuncId) (caps : Array Value) (p : List (Int × Int) → Bool) (w : World) (h : EndSS w v xs) (henter : ∀ args w, (callFunc fid args).run Tryz.prog w = .ok (.enter fid args) w) (hp : PredR w fid caps p xs) :
    Calls Tryz.prog 243 #[v, .func (.func fid) #[] caps] w fun e w' => e = .returned (.int .i64 (ridx p xs)) ∧ Below w.heap.size w w' := by
  have H := Lib.hid h
  obtain ⟨A, c, rfl, hlc, hm, hA⟩ := h
  unfold maxLen at hm
  have HA := Lib.hid hA
  clear hA
  have Hp := Lib.hid hp
  have eg := henter
  clear hp
  go_enter Tryz.func243, Tryz.ntmps243
  go_wp2
  go_loopw [8] (fun i wr => ∃ k : Nat, k ≤ xs.length ∧ i = .int .i64 k ∧ (xs.take k).any p = false ∧ Since w wr) (fun i _ => xs.length - (intOf i).toNat)
  case atStart => exact ⟨0, Nat.zero_le _, rfl, rfl, since_refl _⟩
  case round =>
    obtain ⟨k, hk, rfl, hany, hb⟩ := hrel
    have Hany := Lib.hid hany
    have Hb := Lib.hid hb
    clear hany hb
    by_cases hlt : k < xs.length
    · obtain ⟨x, hx⟩ := getx xs k hlt
      obtain ⟨b, off, u, rfl, hc0, hrow⟩ := HA.out k x hx
      have d0 := Hb.out.cell hc0
      have Hx := Lib.hid hx
      have hcall := Hp.out x (List.mem_of_getElem? hx) wr u Hb.out (hrow.keep Hb.out.below)
      obtain ⟨y, hy⟩ : ∃ y, y = p x := ⟨_, rfl⟩
      have Hy := Lib.hid hy
      rw [← hy] at hcall
      have Hcall := Lib.hid hcall
      clear hy hcall hx hc0 hrow
      go_wp2_with fail
      refine Hcall.out.mono ?_
      rintro e w1 ⟨rfl, hb1⟩
      have Hb1 := Lib.hid (Hb.out.trans hb1)
      clear hb1
      cases y
      · go_wp2
        go_roundw
        case rel => exact ⟨k + 1, by omega, by go_num, any_snoc' Hx.out Hany.out Hy.out.symm, Hb1.out⟩
        case measure => simp [intOf]; omega
      · have Hr : Hid (ridx p xs = k) := by show _ = _; unfold ridx; rw [fi_found Hx.out Hy.out.symm Hany.out]
        go_wp2
        go_ret
        exact ⟨congrArg (fun i => Ending.returned (.int .i64 i)) Hr.out.symm, Hb1.out⟩
    · obtain rfl : k = xs.length := by omega
      have Hr : Hid (ridx p xs = -1) := by show _ = _; unfold ridx; rw [fi_none (by have := Hany.out; rwa [List.take_length] at this)]
      go_wp2
      go_ret
      exact ⟨congrArg (fun i => Ending.returned (.int .i64 i)) Hr.out.symm, Hb.out⟩
theorem containsFuncR_any (v : Value) (xs : List (List (Int × Int))) (fid : FuncId) (caps : Array Value) (p : List (Int × Int) → Bool) (w : World) (h : EndSS w v xs) (henter : ∀ args w, (callFunc fid args).run Tryz.prog w = .ok (.enter fid args) w) (hp : PredR w fid caps p xs) :
    Calls Tryz.prog 219 #[v, .func (.func fid) #[] caps] w fun e w' => e = .returned (.bool (xs.any p)) ∧ Below w.heap.size w w' := by
  have hi := Lib.hid (indexFuncR_any v xs fid caps p w h henter hp)
  have He := Lib.hid (ridx_any p xs)
  obtain ⟨A, c, rfl, hlc, hm, hA⟩ := h
  go_enter Tryz.func219, Tryz.ntmps219
  go_wp2_with fail
  refine hi.out.mono ?_
  rintro e w1 ⟨rfl, hb⟩
  have Hb := Lib.hid hb
  clear hb
  go_wp2
  go_ret
  exact ⟨congrArg (fun b => Ending.returned (.bool b)) He.out, Hb.out⟩
set_option maxHeartbeats 2000000 in
theorem ring1_any (u : Value) (es : List (Int × Int)) (w : World) (h : EndS w u es) : Calls Tryz.prog 220 #[u] w fun e w' => e = .returned (.bool (rowBad es)) ∧ Below w.heap.size w w' := by
  obtain ⟨A, c, rfl, hlc, hm, hA⟩ := h
  by_cases h2 : es.length = 2
  · obtain ⟨e0, he0⟩ := getx es 0 (by omega)
    obtain ⟨b, off, rfl, hc0, hc1⟩ := hA 0 e0 he0
    have Hr : Hid (rowBad es = (e0.2 != 1)) := by
      show _ = _
      unfold rowBad
      rw [getD_of he0, h2]
      rfl
    have hl : ((es.length : Int) != 2) = false := by rw [h2]; rfl
    have hpos : 0 < es.length := by omega
    have Hh := Lib.hid h2
    clear hA he0 h2
    go_enter Tryz.func220, Tryz.ntmps220
    go_wp2
    go_ret
    exact ⟨congrArg (fun b => Ending.returned (.bool b)) Hr.out.symm, Below.refl _ _⟩
  · have Hr : Hid (rowBad es = true) := by
      show _ = _
      unfold rowBad
      have : ((es.length : Int) != 2) = true := by simp; omega
      rw [this]; rfl
    have hl : ((es.length : Int) != 2) = true := by simp; omega
    clear hA
    go_enter Tryz.func220, Tryz.ntmps220
    go_wp2
    go_ret
    exact ⟨congrArg (fun b => Ending.returned (.bool b)) Hr.out.symm, Below.refl _ _⟩
theorem ring1_enters : ∀ args w, (callFunc 220 args).run Tryz.prog w = .ok (.enter 220 args) w := enters_of Tryz.func220 (by kernel_rfl) rfl
end Go.Proofs.YtlfehdikgbgloaaGreat
namespace Go.Proofs.YtlfehdikgbgloaaGreat
open Go.RowKit
theorem netOk_inputs {n : Net} (h : netOk n = true) : n.inputs.length = n.ends.length := by
  unfold netOk at h
  simp only [Bool.and_eq_true] at h
  obtain ⟨⟨⟨-, -⟩, i2⟩, -⟩ := h
  unfold inputsB at i2
  simp only [Bool.and_eq_true, beq_iff_eq] at i2
  omega
def ringB (n : Net) : Bool := !n.ends.any rowBad && decide (1 < (n.ends.length : Int)) && ((onesB n.inputs : Int) == 1) && connB n
set_option maxRecDepth 100000 in
set_option maxHeartbeats 4000000 in
theorem isTokenRing_any (ve vi vn : Value) (n : Net) (w : World) (h : NetIn w ve vi vn n) (hn : netOk n = true) :
    Calls Tryz.prog 191 #[.agg #[ve, vi, vn]] w fun e w' => e = .returned (.bool (ringB n)) ∧ Below w.heap.size w w' := by
  have hn40 := (netOk_len hn).2
  have hil := netOk_inputs hn
  obtain ⟨w0, hw0⟩ : ∃ w0, w0 = (w).alloc (.cells #[ve, vi, vn] 31) := ⟨_, rfl⟩
  have hb0 : Below w.heap.size w w0 := by rw [hw0]; exact ((Below.refl _ _).alloc (by simp) _)
  have H := Lib.hid (h.keep hb0)
  obtain ⟨h1, h2, h3⟩ := h.keep hb0
  obtain ⟨A, c, rfl, hlc, hm, hA⟩ := h1
  obtain ⟨A2, c2, rfl, _, hm2, _⟩ := h2
  obtain ⟨A3, c3, rfl, _, hm3, _⟩ := h3
  unfold maxLen at hm hm2 hm3
  have p00 : ∀ W, Since w0 W → W.cell? ⟨w.heap.size, 0, none⟩ = some (.slice A n.ends.length c) := have_cell (by rw [hw0]; simp)
  have p01 : ∀ W, Since w0 W → W.cell? ⟨w.heap.size, 1, none⟩ = some (.slice A2 n.ids.length c2) := have_cell (by rw [hw0]; simp)
  have p02 : ∀ W, Since w0 W → W.cell? ⟨w.heap.size, 2, none⟩ = some (.slice A3 n.inputs.length c3) := have_cell (by rw [hw0]; simp)
  have Hb0 := Lib.hid hb0
  have Hw0 := Lib.hid hw0
  have HA := Lib.hid hA
  clear hA h
  clear hb0 hw0
  have Hn := Lib.hid hn
  have Hil := Lib.hid hil
  have hs0 : Since w0 w0 := since_refl _
  obtain ⟨Y, hY⟩ : ∃ Y, Y = ringB n := ⟨_, rfl⟩
  have HY := Lib.hid hY
  rw [← hY]
  obtain ⟨q, hq⟩ : ∃ q, q = onesB n.inputs := ⟨_, rfl⟩
  have Hq := Lib.hid hq
  have hcall := containsFuncR_any (.slice A n.ends.length c) n.ends 220 #[] rowBad
  have Hcall := Lib.hid hcall
  have Hones : Hid (∀ W, Since w0 W → Calls Tryz.prog 218 #[.slice A3 n.inputs.length c3] W fun e w' => e = .returned (.int .i64 q) ∧ Below W.heap.size W w') := fun W hW => by
    have := ones_any (.slice A3 n.inputs.length c3) n.inputs W (H.out.keep hW.below).2.2 (by have := Hil.out; omega)
    rw [← Hq.out] at this
    exact this
  clear hn hil hY hq hcall
  go_enter Tryz.func191, Tryz.ntmps191
  go_upto_region 1 with (fail)
  rw [← Hw0.out]
  refine wp_region_flow0 15 (Since w0) (since_refl _) ?_
  simp only [List.take_succ_cons, List.take_zero, List.drop_succ_cons, List.drop_zero]
  refine flow_val (v := ?_) rfl ?_ ?_; rotate_left; (intro W hW; go_simp; with_reducible rfl)
  simp only [Act.put, List.setIfInBounds_toArray, List.set_cons_succ, List.set_cons_zero]
  refine flow_val (v := ?_) rfl ?_ ?_; rotate_left; (intro W hW; go_simp; with_reducible rfl)
  simp only [Act.put, List.setIfInBounds_toArray, List.set_cons_succ, List.set_cons_zero]
  refine flow_val (v := ?_) rfl ?_ ?_; rotate_left; (intro W hW; go_simp; with_reducible rfl)
  simp only [Act.put, List.setIfInBounds_toArray, List.set_cons_succ, List.set_cons_zero]
  refine flow_val (v := ?_) rfl ?_ ?_; rotate_left; (intro W hW; go_simp; with_reducible rfl)
  simp only [Act.put, List.setIfInBounds_toArray, List.set_cons_succ, List.set_cons_zero]
  refine flow_val (v := ?_) rfl ?_ ?_; rotate_left; (intro W hW; go_simp; with_reducible rfl)
  simp only [Act.put, List.setIfInBounds_toArray, List.set_cons_succ, List.set_cons_zero]
  refine flow_gval (v := ?_) rfl rfl ?_ ?_; rotate_left; (intro hb W hW; go_simp; with_reducible rfl)
  simp only [Act.put, List.setIfInBounds_toArray, List.set_cons_succ, List.set_cons_zero]
  refine flow_gop (v := ?_) rfl rfl ?_ ?_; rotate_left; (intro hb W hW; unfold Gives; go_simp; (with_reducible refine (isConnected_any _ _ _ n W (H.out.keep hW.below) Hn.out).mono ?_); rintro e W' ⟨rfl, hb3⟩; first | (refine ⟨?_, Since.trans hW hb3⟩; with_reducible rfl) | (subst hb3; refine ⟨?_, hW⟩; with_reducible rfl))
  simp only [Act.put, List.setIfInBounds_toArray, List.set_cons_succ, List.set_cons_zero]
  refine flow_gval (v := ?_) rfl rfl ?_ ?_; rotate_left; (intro hb W hW; go_simp; with_reducible rfl)
  simp only [Act.put, List.setIfInBounds_toArray, List.set_cons_succ, List.set_cons_zero]
  first | refine flow_or rfl rfl ?_ | (refine flow_val (v := ?_) rfl ?_ ?_; rotate_left; (intro W hW; go_simp; with_reducible rfl))
  simp only [Act.put, List.setIfInBounds_toArray, List.set_cons_succ, List.set_cons_zero]
  refine flow_val (v := ?_) rfl ?_ ?_; rotate_left; (intro W hW; go_simp; with_reducible rfl)
  simp only [Act.put, List.setIfInBounds_toArray, List.set_cons_succ, List.set_cons_zero]
  refine flow_gval (v := ?_) rfl rfl ?_ ?_; rotate_left; (intro hb W hW; go_simp; with_reducible rfl)
  simp only [Act.put, List.setIfInBounds_toArray, List.set_cons_succ, List.set_cons_zero]
  refine flow_gval (v := ?_) rfl rfl ?_ ?_; rotate_left; (intro hb W hW; go_simp; with_reducible rfl)
  simp only [Act.put, List.setIfInBounds_toArray, List.set_cons_succ, List.set_cons_zero]
  refine flow_gop (v := ?_) rfl rfl ?_ ?_; rotate_left; (intro hb W hW; unfold Gives; go_simp; (with_reducible refine (Hones.out W hW).mono ?_); rintro e W' ⟨rfl, hb3⟩; first | (refine ⟨?_, Since.trans hW hb3⟩; with_reducible rfl) | (subst hb3; refine ⟨?_, hW⟩; with_reducible rfl))
  simp only [Act.put, List.setIfInBounds_toArray, List.set_cons_succ, List.set_cons_zero]
  refine flow_gval (v := ?_) rfl rfl ?_ ?_; rotate_left; (intro hb W hW; go_simp; with_reducible rfl)
  simp only [Act.put, List.setIfInBounds_toArray, List.set_cons_succ, List.set_cons_zero]
  first | refine flow_or rfl rfl ?_ | (refine flow_val (v := ?_) rfl ?_ ?_; rotate_left; (intro W hW; go_simp; with_reducible rfl))
  simp only [Act.put, List.setIfInBounds_toArray, List.set_cons_succ, List.set_cons_zero]
  intro W hW
  cases hg : (decide ((n.ends.length : Int) < 2) || !connB n || ((q : Int) != 1))
  · have hc2 := Hcall.out W (H.out.keep hW.below).es ring1_enters (fun x _ w u _ hu => ring1_any u x w hu)
    obtain ⟨y, hy⟩ : ∃ y, y = n.ends.any rowBad := ⟨_, rfl⟩
    rw [← hy] at hc2
    have Hc2 := Lib.hid hc2
    have HR : Hid (Y = !y) := by
      show _ = _
      rw [HY.out, hy, ringB, ← Hq.out]
      simp only [Bool.or_eq_false_iff, Bool.not_eq_false', bne_eq_false_iff_eq, decide_eq_false_iff_not] at hg
      rw [hg.1.2, hg.2, show decide (1 < (n.ends.length : Int)) = true by simp; omega]
      simp
    have hsW := hW
    have q0 := p00 W hW
    clear hg hc2 hy hW
    go_wp2_with fail
    refine Hc2.out.mono ?_
    rintro e w2 ⟨rfl, hb⟩
    have Hs2 := Lib.hid (hsW.trans hb)
    clear hb hsW q0
    go_wp2
    go_ret
    exact ⟨congrArg (fun b => Ending.returned (.bool b)) HR.out.symm, Since.after Hb0.out Hs2.out⟩
  · have HR : Hid (Y = false) := by
      show _ = _
      rw [HY.out, ringB, ← Hq.out]
      by_cases h1 : (n.ends.length : Int) < 2
      · have : decide (1 < (n.ends.length : Int)) = false := by simp; omega
        rw [this]; simp
      · have : decide ((n.ends.length : Int) < 2) = false := by simpa using h1
        rw [this] at hg
        cases hcc : connB n
        · simp
        · rw [hcc] at hg
          have : ((q : Int) == 1) = false := by simpa using hg
          rw [this]; simp
    have HW := Lib.hid hW
    clear hg hW
    go_wp2
    go_ret
    exact ⟨congrArg (fun b => Ending.returned (.bool b)) HR.out.symm, Since.after Hb0.out HW.out⟩
set_option maxRecDepth 100000 in
set_option maxHeartbeats 4000000 in
theorem ssRing_any (ve vi vn : Value) (n : Net) (w : World) (h : NetIn w ve vi vn n) (hn : netOk n = true) :
    Calls Tryz.prog 183 #[.agg #[ve, vi, vn]] w fun e w' => e = .returned (.bool (ringB n)) ∧ Below w.heap.size w w' := by
  have hn40 := (netOk_len hn).2
  have hil := netOk_inputs hn
  obtain ⟨w0, hw0⟩ : ∃ w0, w0 = (w).alloc (.cells #[ve, vi, vn] 31) := ⟨_, rfl⟩
  have hb0 : Below w.heap.size w w0 := by rw [hw0]; exact ((Below.refl _ _).alloc (by simp) _)
  have H := Lib.hid (h.keep hb0)
  obtain ⟨h1, h2, h3⟩ := h.keep hb0
  obtain ⟨A, c, rfl, hlc, hm, hA⟩ := h1
  obtain ⟨A2, c2, rfl, _, hm2, _⟩ := h2
  obtain ⟨A3, c3, rfl, _, hm3, _⟩ := h3
  unfold maxLen at hm hm2 hm3
  have p00 : ∀ W, Since w0 W → W.cell? ⟨w.heap.size, 0, none⟩ = some (.slice A n.ends.length c) := have_cell (by rw [hw0]; simp)
  have p01 : ∀ W, Since w0 W → W.cell? ⟨w.heap.size, 1, none⟩ = some (.slice A2 n.ids.length c2) := have_cell (by rw [hw0]; simp)
  have p02 : ∀ W, Since w0 W → W.cell? ⟨w.heap.size, 2, none⟩ = some (.slice A3 n.inputs.length c3) := have_cell (by rw [hw0]; simp)
  have Hb0 := Lib.hid hb0
  have Hw0 := Lib.hid hw0
  have HA := Lib.hid hA
  clear hA h
  clear hb0 hw0
  have Hn := Lib.hid hn
  have Hil := Lib.hid hil
  have hs0 : Since w0 w0 := since_refl _
  obtain ⟨Y, hY⟩ : ∃ Y, Y = ringB n := ⟨_, rfl⟩
  have HY := Lib.hid hY
  rw [← hY]
  clear hn hil hY
  go_enter Tryz.func183, Tryz.ntmps183
  go_upto_region 1 with (fail)
  rw [← Hw0.out]
  go_wp2
  go_loopw [3, 9] (fun q i wr => ∃ k : Nat, k ≤ n.ends.length ∧ i = .int .i64 k ∧ q = .int .i64 (onesB (n.inputs.take k)) ∧ (n.ends.take k).any rowBad = false ∧ Since w0 wr) (fun _ i _ => n.ends.length - (intOf i).toNat)
  case atStart => exact ⟨0, Nat.zero_le _, rfl, rfl, rfl, hs0⟩
  case round =>
    obtain ⟨k, hk, rfl, rfl, hany, hs⟩ := hrel
    have Hany := Lib.hid hany
    have Hs := Lib.hid hs
    obtain ⟨q, hq⟩ : ∃ q, q = onesB (n.inputs.take k) := ⟨_, rfl⟩
    have hqk : q ≤ k := by rw [hq]; have := onesB_le (n.inputs.take k); rw [List.length_take] at this; omega
    rw [← hq]
    have Hq := Lib.hid hq
    clear hany hs hs0 hq
    by_cases hlt : k < n.ends.length
    · obtain ⟨es, hes⟩ := getx n.ends k hlt
      obtain ⟨b, offr, cr, ur, hA1, hkr, hc1, hrow⟩ := row_at H.out.es hes
      cases hA1
      obtain ⟨A1, z1, rfl, hz1, hz2, hA1⟩ := hrow
      unfold maxLen at hz2
      have HA1 := Lib.hid hA1
      have q5 := have_cell hc1 wr Hs.out
      have q0 := p00 wr Hs.out
      have Hes := Lib.hid hes
      have m3 : IntKind.i64.wrap ((k : Int) + 1) = (k : Int) + 1 := wr64 _ (by omega) (by omega)
      have m4 : IntKind.i64.wrap ((q : Int) + 1) = (q : Int) + 1 := wr64 _ (by omega) (by omega)
      clear hes hc1 hA1
      have Hbad : Hid (rowBad es = true → Y = false) := fun hb => by
        have : n.ends.any rowBad = true := List.any_eq_true.2 ⟨es, List.mem_of_getElem? Hes.out, hb⟩
        rw [HY.out, ringB, this]
        rfl
      obtain ⟨x, hx⟩ := getx n.inputs k (by have := Hil.out; omega)
      have hrd := H.out.2.2
      obtain ⟨A9, c9, e9, hlc9, -, hin9⟩ := hrd
      injection e9 with e9a _ e9c
      subst e9a
      obtain ⟨b9, o9, rfl, hx9⟩ := hin9 k x hx
      have q2 := p02 wr Hs.out
      have x9 := have_cell hx9 wr Hs.out
      have Hnx : Hid ((onesB (n.inputs.take (k + 1)) : Int) = q + if x = 1 then 1 else 0) := by
        show _ = _
        rw [onesB_snoc hx, ← Hq.out]
        split <;> simp
      have hkin : k < n.inputs.length := lt_of_get hx
      clear hx hin9 hx9 e9c
      by_cases h2 : es.length = 2
      · obtain ⟨e0, he0⟩ := getx es 0 (by omega)
        obtain ⟨bb, off, rfl, hd0, hd1⟩ := HA1.out 0 e0 he0
        have d1 := have_cell hd1 wr Hs.out
        have Hr : Hid (rowBad es = (e0.2 != 1)) := by show _ = _; unfold rowBad; rw [getD_of he0, h2]; rfl
        have hl : ((es.length : Int) != 2) = false := by rw [h2]; rfl
        have hpos : 0 < es.length := by omega
        clear hd0 hd1 he0 h2
        cases hp : (e0.2 != 1)
        · have Hok : Hid ((n.ends.take (k + 1)).any rowBad = false) := any_snoc' Hes.out Hany.out (by rw [Hr.out, hp])
          by_cases hx1 : x = 1
          · have Hn2 : Hid ((onesB (n.inputs.take (k + 1)) : Int) = q + 1) := by show _ = _; rw [Hnx.out, if_pos hx1]
            have hxb : (x == 1) = true := by simpa using hx1
            go_wp2
            go_roundw
            case rel => exact ⟨k + 1, by omega, by go_num, by rw [Hn2.out], Hok.out, Hs.out⟩
            case measure => simp [intOf]; omega
          · have Hn2 : Hid ((onesB (n.inputs.take (k + 1)) : Int) = q) := by show _ = _; rw [Hnx.out, if_neg hx1]; simp
            have hxb : (x == 1) = false := by simpa using hx1
            go_wp2
            go_roundw
            case rel => exact ⟨k + 1, by omega, by go_num, by rw [Hn2.out], Hok.out, Hs.out⟩
            case measure => simp [intOf]; omega
        · have HR : Hid (Y = false) := Hbad.out (by rw [Hr.out, hp])
          go_wp2
          go_ret
          exact ⟨congrArg (fun b => Ending.returned (.bool b)) HR.out.symm, Since.after Hb0.out Hs.out⟩
      · have HR : Hid (Y = false) := Hbad.out (by unfold rowBad; rw [show ((es.length : Int) != 2) = true by simp; omega]; rfl)
        have hl : ((es.length : Int) != 2) = true := by simp; omega
        go_wp2
        go_ret
        exact ⟨congrArg (fun b => Ending.returned (.bool b)) HR.out.symm, Since.after Hb0.out Hs.out⟩
    · obtain rfl : k = n.ends.length := by omega
      have Hqf : Hid (q = onesB n.inputs) := by show _ = _; rw [Hq.out, ← Hil.out, List.take_length]
      have Hno : Hid (n.ends.any rowBad = false) := by have := Hany.out; rwa [List.take_length] at this
      have HR : Hid (Y = (decide (1 < (n.ends.length : Int)) && ((q : Int) == 1) && connB n)) := by show _ = _; rw [HY.out, ringB, Hno.out, ← Hqf.out]; simp
      have q00 := lift_cell p00 Hs.out
      have q01 := lift_cell p01 Hs.out
      have q02 := lift_cell p02 Hs.out
      go_upto_region 10 with (fail)
      refine wp_region_flow0 13 (Since wr) (since_refl _) ?_
      simp only [List.take_succ_cons, List.take_zero, List.drop_succ_cons, List.drop_zero]
      refine flow_val (v := ?_) rfl ?_ ?_; rotate_left; (intro W hW; go_simp; with_reducible rfl)
      simp only [Act.put, List.setIfInBounds_toArray, List.set_cons_succ, List.set_cons_zero]
      refine flow_val (v := ?_) rfl ?_ ?_; rotate_left; (intro W hW; go_simp; with_reducible rfl)
      simp only [Act.put, List.setIfInBounds_toArray, List.set_cons_succ, List.set_cons_zero]
      refine flow_val (v := ?_) rfl ?_ ?_; rotate_left; (intro W hW; go_simp; with_reducible rfl)
      simp only [Act.put, List.setIfInBounds_toArray, List.set_cons_succ, List.set_cons_zero]
      refine flow_val (v := ?_) rfl ?_ ?_; rotate_left; (intro W hW; go_simp; with_reducible rfl)
      simp only [Act.put, List.setIfInBounds_toArray, List.set_cons_succ, List.set_cons_zero]
      refine flow_val (v := ?_) rfl ?_ ?_; rotate_left; (intro W hW; go_simp; with_reducible rfl)
      simp only [Act.put, List.setIfInBounds_toArray, List.set_cons_succ, List.set_cons_zero]
      refine flow_gval (v := ?_) rfl rfl ?_ ?_; rotate_left; (intro hb W hW; go_simp; with_reducible rfl)
      simp only [Act.put, List.setIfInBounds_toArray, List.set_cons_succ, List.set_cons_zero]
      refine flow_gval (v := ?_) rfl rfl ?_ ?_; rotate_left; (intro hb W hW; go_simp; with_reducible rfl)
      simp only [Act.put, List.setIfInBounds_toArray, List.set_cons_succ, List.set_cons_zero]
      first | refine flow_and rfl rfl ?_ | (refine flow_val (v := ?_) rfl ?_ ?_; rotate_left; (intro W hW; go_simp; with_reducible rfl))
      simp only [Act.put, List.setIfInBounds_toArray, List.set_cons_succ, List.set_cons_zero]
      refine flow_val (v := ?_) rfl ?_ ?_; rotate_left; (intro W hW; go_simp; with_reducible rfl)
      simp only [Act.put, List.setIfInBounds_toArray, List.set_cons_succ, List.set_cons_zero]
      refine flow_gval (v := ?_) rfl rfl ?_ ?_; rotate_left; (intro hb W hW; go_simp; with_reducible rfl)
      simp only [Act.put, List.setIfInBounds_toArray, List.set_cons_succ, List.set_cons_zero]
      refine flow_gop (v := ?_) rfl rfl ?_ ?_; rotate_left; (intro hb W hW; unfold Gives; go_simp; (with_reducible refine (meConnected_any _ _ _ n W (H.out.keep (Hs.out.after hW).below) Hn.out).mono ?_); rintro e W' ⟨rfl, hb3⟩; first | (refine ⟨?_, Since.trans hW hb3⟩; with_reducible rfl) | (subst hb3; refine ⟨?_, hW⟩; with_reducible rfl))
      simp only [Act.put, List.setIfInBounds_toArray, List.set_cons_succ, List.set_cons_zero]
      first | refine flow_and rfl rfl ?_ | (refine flow_val (v := ?_) rfl ?_ ?_; rotate_left; (intro W hW; go_simp; with_reducible rfl))
      simp only [Act.put, List.setIfInBounds_toArray, List.set_cons_succ, List.set_cons_zero]
      refine flow_val (v := ?_) rfl ?_ ?_; rotate_left; (intro W hW; go_simp; with_reducible rfl)
      simp only [Act.put, List.setIfInBounds_toArray, List.set_cons_succ, List.set_cons_zero]
      intro W hW
      have HW := Lib.hid hW
      clear q00 q01 q02 hW
      go_wp2
      go_ret
      exact ⟨congrArg (fun b => Ending.returned (.bool b)) HR.out.symm, Since.after Hb0.out (Hs.out.after HW.out)⟩
end Go.Proofs.YtlfehdikgbgloaaGreat
namespace Go.Proofs.YtlfehdikgbgloaaGreat
open Go.RowKit
def runsB (n : Net) (r : Int) : Bool := plainB n && ((r != 5) || ringB n)
set_option maxHeartbeats 4000000 in
theorem ruleRuns_any (ve vi vn : Value) (n : Net) (r : Int) (w : World) (h : NetIn w ve vi vn n) (hn : netOk n = true) :
    Calls Tryz.prog 139 #[.agg #[ve, vi, vn], .int .i64 r] w fun e w' => e = .returned (.bool (runsB n r)) ∧ Below w.heap.size w w' := by
  obtain ⟨w0, hw0⟩ : ∃ w0, w0 = (w).alloc (.cells #[ve, vi, vn] 31) := ⟨_, rfl⟩
  have hb0 : Below w.heap.size w w0 := by rw [hw0]; exact ((Below.refl _ _).alloc (by simp) _)
  have H := Lib.hid (h.keep hb0)
  obtain ⟨h1, h2, h3⟩ := h.keep hb0
  obtain ⟨A, c, rfl, hlc, hm, hA⟩ := h1
  obtain ⟨A2, c2, rfl, _, hm2, _⟩ := h2
  obtain ⟨A3, c3, rfl, _, hm3, _⟩ := h3
  unfold maxLen at hm hm2 hm3
  have p00 : ∀ W, Since w0 W → W.cell? ⟨w.heap.size, 0, none⟩ = some (.slice A n.ends.length c) := have_cell (by rw [hw0]; simp)
  have p01 : ∀ W, Since w0 W → W.cell? ⟨w.heap.size, 1, none⟩ = some (.slice A2 n.ids.length c2) := have_cell (by rw [hw0]; simp)
  have p02 : ∀ W, Since w0 W → W.cell? ⟨w.heap.size, 2, none⟩ = some (.slice A3 n.inputs.length c3) := have_cell (by rw [hw0]; simp)
  have Hb0 := Lib.hid hb0
  have Hw0 := Lib.hid hw0
  have HA := Lib.hid hA
  clear hA h
  clear hb0 hw0
  have Hn := Lib.hid hn
  obtain ⟨pl, hpl⟩ : ∃ x, x = !plainB n := ⟨_, rfl⟩
  have Hhl : Hid (∀ W, Since w0 W → Calls Tryz.prog 190 #[.agg #[.slice A n.ends.length c, .slice A2 n.ids.length c2, .slice A3 n.inputs.length c3]] W fun e w' => e = .returned (.bool pl) ∧ Below W.heap.size W w') := fun W hW => by rw [hpl]; exact hasLoops_any _ _ _ n W (H.out.keep hW.below) hn
  have HR : Hid (runsB n r = (!pl && ((r != 5) || ringB n))) := by show _ = _; rw [hpl, runsB, Bool.not_not]
  clear hn hpl
  go_enter Tryz.func139, Tryz.ntmps139
  go_upto_region 1 with (fail)
  rw [← Hw0.out]
  refine wp_region_flow0 12 (Since w0) (since_refl _) ?_
  simp only [List.take_succ_cons, List.take_zero, List.drop_succ_cons, List.drop_zero]
  refine flow_val (v := ?_) rfl ?_ ?_; rotate_left; (intro W hW; go_simp; with_reducible rfl)
  simp only [Act.put, List.setIfInBounds_toArray, List.set_cons_succ, List.set_cons_zero]
  refine flow_op ?_ rfl ?_ ?_; rotate_left; (intro W hW; unfold Gives; go_simp; (with_reducible refine (Hhl.out W hW).mono ?_); rintro e W' ⟨rfl, hb3⟩; first | (refine ⟨?_, Since.trans hW hb3⟩; with_reducible rfl) | (subst hb3; refine ⟨?_, hW⟩; with_reducible rfl))
  simp only [Act.put, List.setIfInBounds_toArray, List.set_cons_succ, List.set_cons_zero]
  refine flow_val (v := ?_) rfl ?_ ?_; rotate_left; (intro W hW; go_simp; with_reducible rfl)
  simp only [Act.put, List.setIfInBounds_toArray, List.set_cons_succ, List.set_cons_zero]
  refine flow_val (v := ?_) rfl ?_ ?_; rotate_left; (intro W hW; go_simp; with_reducible rfl)
  simp only [Act.put, List.setIfInBounds_toArray, List.set_cons_succ, List.set_cons_zero]
  refine flow_gval (v := ?_) rfl rfl ?_ ?_; rotate_left; (intro hb W hW; go_simp; with_reducible rfl)
  simp only [Act.put, List.setIfInBounds_toArray, List.set_cons_succ, List.set_cons_zero]
  refine flow_gval (v := ?_) rfl rfl ?_ ?_; rotate_left; (intro hb W hW; go_simp; with_reducible rfl)
  simp only [Act.put, List.setIfInBounds_toArray, List.set_cons_succ, List.set_cons_zero]
  refine flow_gval (v := ?_) rfl rfl ?_ ?_; rotate_left; (intro hb W hW; go_simp; with_reducible rfl)
  simp only [Act.put, List.setIfInBounds_toArray, List.set_cons_succ, List.set_cons_zero]
  refine flow_gval2 (v := ?_) rfl rfl ?_ ?_; rotate_left; (intro hb hb2 W hW; go_simp; with_reducible rfl)
  simp only [Act.put, List.setIfInBounds_toArray, List.set_cons_succ, List.set_cons_zero]
  refine flow_gop2 (v := ?_) rfl rfl ?_ ?_; rotate_left; (intro hb hb2 W hW; unfold Gives; go_simp; (with_reducible refine (isTokenRing_any _ _ _ n W (H.out.keep hW.below) Hn.out).mono ?_); rintro e W' ⟨rfl, hb3⟩; first | (refine ⟨?_, Since.trans hW hb3⟩; with_reducible rfl) | (subst hb3; refine ⟨?_, hW⟩; with_reducible rfl))
  simp only [Act.put, List.setIfInBounds_toArray, List.set_cons_succ, List.set_cons_zero]
  refine flow_gor rfl rfl rfl ?_
  simp only [Act.put, List.setIfInBounds_toArray, List.set_cons_succ, List.set_cons_zero]
  first | refine flow_and rfl rfl ?_ | (refine flow_val (v := ?_) rfl ?_ ?_; rotate_left; (intro W hW; go_simp; with_reducible rfl))
  simp only [Act.put, List.setIfInBounds_toArray, List.set_cons_succ, List.set_cons_zero]
  refine flow_val (v := ?_) rfl ?_ ?_; rotate_left; (intro W hW; go_simp; with_reducible rfl)
  simp only [Act.put, List.setIfInBounds_toArray, List.set_cons_succ, List.set_cons_zero]
  intro W hW
  have HW := Lib.hid hW
  clear hW
  go_wp2
  go_ret
  exact ⟨congrArg (fun b => Ending.returned (.bool b)) HR.out.symm, Since.after Hb0.out HW.out⟩
set_option maxHeartbeats 4000000 in
theorem ssRuns_any (ve vi vn : Value) (n : Net) (r : Int) (w : World) (h : NetIn w ve vi vn n) (hn : netOk n = true) :
    Calls Tryz.prog 132 #[.agg #[ve, vi, vn], .int .i64 r] w fun e w' => e = .returned (.bool (runsB n r)) ∧ Below w.heap.size w w' := by
  obtain ⟨w0, hw0⟩ : ∃ w0, w0 = (w).alloc (.cells #[ve, vi, vn] 31) := ⟨_, rfl⟩
  have hb0 : Below w.heap.size w w0 := by rw [hw0]; exact ((Below.refl _ _).alloc (by simp) _)
  have H := Lib.hid (h.keep hb0)
  obtain ⟨h1, h2, h3⟩ := h.keep hb0
  obtain ⟨A, c, rfl, hlc, hm, hA⟩ := h1
  obtain ⟨A2, c2, rfl, _, hm2, _⟩ := h2
  obtain ⟨A3, c3, rfl, _, hm3, _⟩ := h3
  unfold maxLen at hm hm2 hm3
  have p00 : ∀ W, Since w0 W → W.cell? ⟨w.heap.size, 0, none⟩ = some (.slice A n.ends.length c) := have_cell (by rw [hw0]; simp)
  have p01 : ∀ W, Since w0 W → W.cell? ⟨w.heap.size, 1, none⟩ = some (.slice A2 n.ids.length c2) := have_cell (by rw [hw0]; simp)
  have p02 : ∀ W, Since w0 W → W.cell? ⟨w.heap.size, 2, none⟩ = some (.slice A3 n.inputs.length c3) := have_cell (by rw [hw0]; simp)
  have Hb0 := Lib.hid hb0
  have Hw0 := Lib.hid hw0
  have HA := Lib.hid hA
  clear hA h
  clear hb0 hw0
  have Hn := Lib.hid hn
  have HR : Hid (runsB n r = (plainB n && ((r != 5) || ringB n))) := rfl
  clear hn
  go_enter Tryz.func132, Tryz.ntmps132
  go_upto_region 1 with (fail)
  rw [← Hw0.out]
  refine wp_region_flow0 11 (Since w0) (since_refl _) ?_
  simp only [List.take_succ_cons, List.take_zero, List.drop_succ_cons, List.drop_zero]
  refine flow_val (v := ?_) rfl ?_ ?_; rotate_left; (intro W hW; go_simp; with_reducible rfl)
  simp only [Act.put, List.setIfInBounds_toArray, List.set_cons_succ, List.set_cons_zero]
  refine flow_op ?_ rfl ?_ ?_; rotate_left; (intro W hW; unfold Gives; go_simp; (with_reducible refine (ruPlain_any _ _ _ n W (H.out.keep hW.below) Hn.out).mono ?_); rintro e W' ⟨rfl, hb3⟩; first | (refine ⟨?_, Since.trans hW hb3⟩; with_reducible rfl) | (subst hb3; refine ⟨?_, hW⟩; with_reducible rfl))
  simp only [Act.put, List.setIfInBounds_toArray, List.set_cons_succ, List.set_cons_zero]
  refine flow_val (v := ?_) rfl ?_ ?_; rotate_left; (intro W hW; go_simp; with_reducible rfl)
  simp only [Act.put, List.setIfInBounds_toArray, List.set_cons_succ, List.set_cons_zero]
  refine flow_gval (v := ?_) rfl rfl ?_ ?_; rotate_left; (intro hb W hW; go_simp; with_reducible rfl)
  simp only [Act.put, List.setIfInBounds_toArray, List.set_cons_succ, List.set_cons_zero]
  refine flow_gval (v := ?_) rfl rfl ?_ ?_; rotate_left; (intro hb W hW; go_simp; with_reducible rfl)
  simp only [Act.put, List.setIfInBounds_toArray, List.set_cons_succ, List.set_cons_zero]
  refine flow_gval (v := ?_) rfl rfl ?_ ?_; rotate_left; (intro hb W hW; go_simp; with_reducible rfl)
  simp only [Act.put, List.setIfInBounds_toArray, List.set_cons_succ, List.set_cons_zero]
  refine flow_gval2 (v := ?_) rfl rfl ?_ ?_; rotate_left; (intro hb hb2 W hW; go_simp; with_reducible rfl)
  simp only [Act.put, List.setIfInBounds_toArray, List.set_cons_succ, List.set_cons_zero]
  refine flow_gop2 (v := ?_) rfl rfl ?_ ?_; rotate_left; (intro hb hb2 W hW; unfold Gives; go_simp; (with_reducible refine (ssRing_any _ _ _ n W (H.out.keep hW.below) Hn.out).mono ?_); rintro e W' ⟨rfl, hb3⟩; first | (refine ⟨?_, Since.trans hW hb3⟩; with_reducible rfl) | (subst hb3; refine ⟨?_, hW⟩; with_reducible rfl))
  simp only [Act.put, List.setIfInBounds_toArray, List.set_cons_succ, List.set_cons_zero]
  refine flow_gor rfl rfl rfl ?_
  simp only [Act.put, List.setIfInBounds_toArray, List.set_cons_succ, List.set_cons_zero]
  first | refine flow_and rfl rfl ?_ | (refine flow_val (v := ?_) rfl ?_ ?_; rotate_left; (intro W hW; go_simp; with_reducible rfl))
  simp only [Act.put, List.setIfInBounds_toArray, List.set_cons_succ, List.set_cons_zero]
  refine flow_val (v := ?_) rfl ?_ ?_; rotate_left; (intro W hW; go_simp; with_reducible rfl)
  simp only [Act.put, List.setIfInBounds_toArray, List.set_cons_succ, List.set_cons_zero]
  intro W hW
  have HW := Lib.hid hW
  clear hW
  go_wp2
  go_ret
  exact ⟨congrArg (fun b => Ending.returned (.bool b)) HR.out.symm, Since.after Hb0.out HW.out⟩
def fnExactRuleRunsOn_r1 (n : Net) (r : Int) : Bool := netOk n && inB 1 5 r
def fnExactRuleRunsOn_r0 (n : Net) (r : Int) : Bool := fnExactRuleRunsOn_r1 n r && runsB n r
theorem tup2' {a b c d : Bool} (h1 : a = b) (h2 : c = d) : Ending.returned (.tuple #[.bool a, .bool c]) = .returned (.tuple #[.bool b, .bool d]) := by rw [h1, h2]
end Go.Proofs.YtlfehdikgbgloaaGreat
