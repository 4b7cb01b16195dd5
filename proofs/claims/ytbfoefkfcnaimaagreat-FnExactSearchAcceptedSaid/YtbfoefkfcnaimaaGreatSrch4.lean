import Derived.Test.YtbfoefkfcnaimaaGreatSrch1
import Derived.Test.YtbfoefkfcnaimaaGreatRep
import Derived.Test.YtbfoefkfcnaimaaGreatChain
namespace Go.Proofs.YtbfoefkfcnaimaaGreat
open Go.RowKit
/-! the program's search -/
def LS (W : World) (B : Nat) (ve vi vn va vl : Value) : Prop := W.heap[B]? = some (.cells #[ve, vi, vn, va, vl] 55)
section
variable {W W' : World} {B : Nat} {ve vi vn va vl : Value}
theorem LS.c0 (h : LS W B ve vi vn va vl) : W.cell? ⟨B, 0, none⟩ = some ve := by unfold LS at h; simp [World.cell?, h]
theorem LS.c1 (h : LS W B ve vi vn va vl) : W.cell? ⟨B, 1, none⟩ = some vi := by unfold LS at h; simp [World.cell?, h]
theorem LS.c2 (h : LS W B ve vi vn va vl) : W.cell? ⟨B, 2, none⟩ = some vn := by unfold LS at h; simp [World.cell?, h]
theorem LS.c3 (h : LS W B ve vi vn va vl) : W.cell? ⟨B, 3, none⟩ = some va := by unfold LS at h; simp [World.cell?, h]
theorem LS.c4 (h : LS W B ve vi vn va vl) : W.cell? ⟨B, 4, none⟩ = some vl := by unfold LS at h; simp [World.cell?, h]
theorem LS.fz (h : LS W B ve vi vn va vl) (k : Nat) : W.frozen? ⟨B, k, none⟩ = false := by unfold LS at h; simp [World.frozen?, h]
theorem LS.lt (h : LS W B ve vi vn va vl) : B < W.heap.size := (Array.getElem?_eq_some_iff.1 h).1
theorem LS.since (h : LS W B ve vi vn va vl) (hs : Since W W') : LS W' B ve vi vn va vl := (hs.below.block B h.lt).trans h
theorem LS.other (h : LS W B ve vi vn va vl) {b' : Nat} (hb : B ≠ b') (i : Nat) (v : Value) : LS (W.setCell ⟨b', i, none⟩ v) B ve vi vn va vl := (Below.heap_setCell W _ v B hb).trans h
theorem LS.setL (h : LS W B ve vi vn va vl) (vl' : Value) : LS (W.setCell ⟨B, 4, none⟩ vl') B ve vi vn va vl' := by
  unfold LS at *
  simp [World.setCell, Array.getElem?_modify, h]
end
/-- the verifier, in every world since w0 -/
def AccOn (w0 : World) (fid : FuncId) (b : Nat) (n : Net) (most : Int) (acc : List Int → Nat → Bool) : Prop :=
  ∀ W vl ls k, Since w0 W → IntS W vl ls → ls.length = n.ends.length → k < n.ends.length → (∀ x ∈ ls.getD k 0 :: nearB ls (n.ends.getD k []), 0 ≤ x ∧ x ≤ most) →
    Calls Tryz.prog fid #[vl, .int .i64 k, .pointer (some ⟨b, 0, none⟩), .pointer (some ⟨b + 1, 0, none⟩)] W fun e w' => e = .returned (.bool (acc ls k)) ∧ Below W.heap.size W w'
theorem AccOn.use {w0 : World} {fid : FuncId} {b : Nat} {n : Net} {most : Int} {acc : List Int → Nat → Bool} (h : AccOn w0 fid b n most acc) (W : World) (vl : Value) (ls : List Int) (k : Nat) (h1 : Since w0 W) (h2 : IntS W vl ls) (h3 : ls.length = n.ends.length) (h4 : k < n.ends.length) (h5 : ∀ x ∈ ls.getD k 0 :: nearB ls (n.ends.getD k []), 0 ≤ x ∧ x ≤ most) :
    Calls Tryz.prog fid #[vl, .int .i64 k, .pointer (some ⟨b, 0, none⟩), .pointer (some ⟨b + 1, 0, none⟩)] W fun e w' => e = .returned (.bool (acc ls k)) ∧ Below W.heap.size W w' := h W vl ls k h1 h2 h3 h4 h5
def accV (fid : FuncId) (b : Nat) : Value := .func (.func fid) #[] #[.pointer (some ⟨b, 0, none⟩), .pointer (some ⟨b + 1, 0, none⟩)]
set_option maxHeartbeats 4000000 in
theorem noMatching_any (ve vi vn : Value) (n : Net) (w : World) (h : NetIn w ve vi vn n) (hN : 1 ≤ n.ends.length) (hN2 : n.ends.length ≤ 1000000) :
    Calls Tryz.prog 41 #[.agg #[ve, vi, vn]] w fun e w' => ∃ u, e = .returned u ∧ Own w' w.heap.size u (List.replicate n.ends.length (-1)) ∧ Below w.heap.size w w' := by
  obtain ⟨w0, hw0⟩ : ∃ w0, w0 = (w).alloc (.cells #[ve, vi, vn] 31) := ⟨_, rfl⟩
  have hb0 : Below w.heap.size w w0 := by rw [hw0]; exact ((Below.refl _ _).alloc (by simp) _)
  have H := Lib.hid (h.keep hb0)
  obtain ⟨h1, h2, h3⟩ := h.keep hb0
  obtain ⟨A, c, rfl, hlc, hm, hA⟩ := h1
  obtain ⟨A2, c2, rfl, _, hm2, _⟩ := h2
  obtain ⟨A3, c3, rfl, _, hm3, _⟩ := h3
  unfold maxLen at hm hm2 hm3
  have p00 : ∀ W, Since w0 W → W.cell? ⟨w.heap.size, 0, none⟩ = some (.slice A n.ends.length c) := have_cell (by rw [hw0]; simp)
  have p01 : ∀ W, Since w0 W → W.cell? ⟨w.heap.size, 1, none⟩ = some (.slice A2 n.ids.length c2) := have_cell (by rw [hw0]; simp)
  have p02 : ∀ W, Since w0 W → W.cell? ⟨w.heap.size, 2, none⟩ = some (.slice A3 n.inputs.length c3) := have_cell (by rw [hw0]; simp)
  have Hb0 := Lib.hid hb0
  have Hw0 := Lib.hid hw0
  have HA := Lib.hid hA
  clear hA h
  clear hb0 hw0
  go_enter Tryz.func41, Tryz.ntmps41
  go_upto_region 1 with (fail)
  rw [← Hw0.out]
  go_wp2_with fail
  refine (repeat1_any w0.heap.size 1 (-1) n.ends.length _ hN hN2 (by simp)).mono ?_
  rintro e w1 ⟨u, rfl, ho, hb⟩
  have Ho := Lib.hid ho
  have Hb : Hid (Since w0 w1) := Since.after (since_alloc _ (since_refl _)) hb
  clear ho hb
  go_wp2
  go_ret
  exact ⟨_, rfl, Ho.out.mono (by have := Hb0.out.size; simp; omega), Since.after Hb0.out Hb.out⟩
set_option maxRecDepth 100000 in
set_option maxHeartbeats 4000000 in
theorem complete_any (ve vi vn va vl : Value) (n : Net) (ls : List Int) (B x : Nat) (w : World) (h : NetIn w ve vi vn n) (hl : IntS w vl ls) (ha : LS w B ve vi vn va vl) (hn : netOk n = true) (hx : x < n.ends.length) (hll : ls.length = n.ends.length) :
    Calls Tryz.prog 65 #[.pointer (some ⟨B, 0, none⟩), .int .i64 x] w fun e w' => e = .returned (.bool (fullB n ls x)) ∧ Below w.heap.size w w' := by
  have H := Lib.hid h
  have HL := Lib.hid hl
  obtain ⟨n1, n2, n3, -, -⟩ := node_at hn hx
  obtain ⟨es, hes⟩ : ∃ es, es = n.ends.getD x [] := ⟨_, rfl⟩
  rw [← hes] at n1 n2 n3
  have Hes := Lib.hid hes
  have N1 := Lib.hid n1
  have N3 := Lib.hid (show ∀ e ∈ es, 0 ≤ e.1 ∧ e.1 < ls.length from fun e he => by rw [hll]; exact n3 e he)
  have hn2 : es.length ≤ 1000000 := by omega
  clear hes
  obtain ⟨_, bl, ol, cl, y, e0, rfl, hkl, hk', -, hd⟩ := lab_at hl (x := (x : Int)) (by omega) (by omega)
  obtain rfl : x = _ := by exact Int.ofNat.inj e0
  have hy : ls.getD x 0 = y := by rw [List.getD_eq_getElem?_getD, hk']; rfl
  have q0 := have_cell ha.c0
  have q1 := have_cell ha.c1
  have q2 := have_cell ha.c2
  have q4 := have_cell ha.c4
  have qd := have_cell hd
  obtain ⟨⟨A, c, rfl, hlc, hm, _⟩, ⟨A2, c2', rfl, _, hm2', _⟩, ⟨A3, c3', rfl, _, hm3', _⟩⟩ := h
  have hxl : x < ls.length := by omega
  clear ha hn n1 n2 n3 e0 hk' hd hl hll
  by_cases hy0 : 0 ≤ y
  · have Hk : Hid (fullB n ls (x : Int) = !hasB (nearB ls es) (-1)) := by
      show _ = _
      unfold fullB hasB
      rw [Int.toNat_natCast, hy, ← Hes.out]
      simp [hy0]
    clear hy
    go_enter Tryz.func65, Tryz.ntmps65
    go_upto_region 1 with (fail)
    refine wp_region_chain (w0 := w) 22 [false, false, false, false, false, false, false, false, false, false, false, false, false, false, false, false, false, false, true, true, true, true] (by kernel_rfl) (by kernel_rfl) (since_refl _) ?_
    simp only [selF, selT, List.take_succ_cons, List.take_zero, List.drop_succ_cons, List.drop_zero]
    refine pflow_val (v := ?_) rfl ?_ ?_; rotate_left; (intro W hW; go_simp; with_reducible rfl)
    simp only [Act.put, List.setIfInBounds_toArray, List.set_cons_succ, List.set_cons_zero]
    refine pflow_val (v := ?_) rfl ?_ ?_; rotate_left; (intro W hW; go_simp; with_reducible rfl)
    simp only [Act.put, List.setIfInBounds_toArray, List.set_cons_succ, List.set_cons_zero]
    refine pflow_val (v := ?_) rfl ?_ ?_; rotate_left; (intro W hW; go_simp; with_reducible rfl)
    simp only [Act.put, List.setIfInBounds_toArray, List.set_cons_succ, List.set_cons_zero]
    refine pflow_val (v := ?_) rfl ?_ ?_; rotate_left; (intro W hW; go_simp; with_reducible rfl)
    simp only [Act.put, List.setIfInBounds_toArray, List.set_cons_succ, List.set_cons_zero]
    refine pflow_val (v := ?_) rfl ?_ ?_; rotate_left; (intro W hW; go_simp; with_reducible rfl)
    simp only [Act.put, List.setIfInBounds_toArray, List.set_cons_succ, List.set_cons_zero]
    refine pflow_val (v := ?_) rfl ?_ ?_; rotate_left; (intro W hW; go_simp; with_reducible rfl)
    simp only [Act.put, List.setIfInBounds_toArray, List.set_cons_succ, List.set_cons_zero]
    refine pflow_val (v := ?_) rfl ?_ ?_; rotate_left; (intro W hW; go_simp; with_reducible rfl)
    simp only [Act.put, List.setIfInBounds_toArray, List.set_cons_succ, List.set_cons_zero]
    refine pflow_val (v := ?_) rfl ?_ ?_; rotate_left; (intro W hW; go_simp; with_reducible rfl)
    simp only [Act.put, List.setIfInBounds_toArray, List.set_cons_succ, List.set_cons_zero]
    refine pflow_val (v := ?_) rfl ?_ ?_; rotate_left; (intro W hW; go_simp; with_reducible rfl)
    simp only [Act.put, List.setIfInBounds_toArray, List.set_cons_succ, List.set_cons_zero]
    refine pflow_val (v := ?_) rfl ?_ ?_; rotate_left; (intro W hW; go_simp; with_reducible rfl)
    simp only [Act.put, List.setIfInBounds_toArray, List.set_cons_succ, List.set_cons_zero]
    refine pflow_val (v := ?_) rfl ?_ ?_; rotate_left; (intro W hW; go_simp; with_reducible rfl)
    simp only [Act.put, List.setIfInBounds_toArray, List.set_cons_succ, List.set_cons_zero]
    refine pflow_val (v := ?_) rfl ?_ ?_; rotate_left; (intro W hW; go_simp; with_reducible rfl)
    simp only [Act.put, List.setIfInBounds_toArray, List.set_cons_succ, List.set_cons_zero]
    refine pflow_val (v := ?_) rfl ?_ ?_; rotate_left; (intro W hW; go_simp; with_reducible rfl)
    simp only [Act.put, List.setIfInBounds_toArray, List.set_cons_succ, List.set_cons_zero]
    refine pflow_val (v := ?_) rfl ?_ ?_; rotate_left; (intro W hW; go_simp; with_reducible rfl)
    simp only [Act.put, List.setIfInBounds_toArray, List.set_cons_succ, List.set_cons_zero]
    refine pflow_val (v := ?_) rfl ?_ ?_; rotate_left; (intro W hW; go_simp; with_reducible rfl)
    simp only [Act.put, List.setIfInBounds_toArray, List.set_cons_succ, List.set_cons_zero]
    refine pflow_val (v := ?_) rfl ?_ ?_; rotate_left; (intro W hW; go_simp; with_reducible rfl)
    simp only [Act.put, List.setIfInBounds_toArray, List.set_cons_succ, List.set_cons_zero]
    refine pflow_val (v := ?_) rfl ?_ ?_; rotate_left; (intro W hW; go_simp; with_reducible rfl)
    simp only [Act.put, List.setIfInBounds_toArray, List.set_cons_succ, List.set_cons_zero]
    refine pflow_val (v := ?_) rfl ?_ ?_; rotate_left; (intro W hW; go_simp; with_reducible rfl)
    simp only [Act.put, List.setIfInBounds_toArray, List.set_cons_succ, List.set_cons_zero]
    intro W hW
    refine Or.inl ⟨rfl, ?_⟩
    go_simp
    (with_reducible refine (near_any _ _ _ _ n ls x _ W (H.out.keep hW.below) (HL.out.keep hW.below) N1.out hn2 N3.out).mono ?_)
    rintro e W' ⟨u, rfl, ho, hb⟩
    refine ⟨_, rfl, hW.trans hb, ?_⟩
    replace hW := hW.trans hb
    have HI := Lib.hid ho.ints; clear ho hb
    (try simp only [Act.put, List.setIfInBounds_toArray, List.set_cons_succ, List.set_cons_zero])
    refine Or.inl ⟨rfl, ?_⟩
    go_simp
    (with_reducible refine (containsI_any _ _ (-1) _ HI.out).mono ?_)
    rintro e W' ⟨rfl, hw⟩
    refine ⟨_, rfl, hw ▸ hW, ?_⟩
    replace hW := hw ▸ hW
    clear hw
    (try simp only [Act.put, List.setIfInBounds_toArray, List.set_cons_succ, List.set_cons_zero])
    refine tflow_val (v := ?_) rfl ?_ hW ?_; rotate_left; (go_simp; with_reducible rfl)
    simp only [Act.put, List.setIfInBounds_toArray, List.set_cons_succ, List.set_cons_zero]
    refine tflow_val (v := ?_) rfl ?_ hW ?_; rotate_left; (go_simp; with_reducible rfl)
    simp only [Act.put, List.setIfInBounds_toArray, List.set_cons_succ, List.set_cons_zero]
    simp only [TFlow]
    have HW := Lib.hid hW
    clear q0 q1 q2 q4 qd hW
    go_wp2
    go_ret
    exact ⟨congrArg (fun b => Ending.returned (.bool b)) Hk.out.symm, HW.out⟩
  · have Hk : Hid (fullB n ls (x : Int) = false) := by
      show _ = _
      unfold fullB
      rw [Int.toNat_natCast, hy]
      simp only [Bool.and_eq_false_iff, decide_eq_false_iff_not]
      exact .inl hy0
    have hyd : decide (0 ≤ y) = false := by simpa using hy0
    clear hy
    go_enter Tryz.func65, Tryz.ntmps65
    go_upto_region 1 with (fail)
    refine wp_region_flow 22 (Since w) (by kernel_rfl) (by kernel_rfl) (by simp) (since_drew (since_refl _)) ?_
    simp only [List.take_succ_cons, List.take_zero, List.drop_succ_cons, List.drop_zero]
    refine flow_val (v := ?_) rfl ?_ ?_; rotate_left; (intro W hW; go_simp; with_reducible rfl)
    simp only [Act.put, List.setIfInBounds_toArray, List.set_cons_succ, List.set_cons_zero]
    refine flow_val (v := ?_) rfl ?_ ?_; rotate_left; (intro W hW; go_simp; with_reducible rfl)
    simp only [Act.put, List.setIfInBounds_toArray, List.set_cons_succ, List.set_cons_zero]
    refine flow_val (v := ?_) rfl ?_ ?_; rotate_left; (intro W hW; go_simp; with_reducible rfl)
    simp only [Act.put, List.setIfInBounds_toArray, List.set_cons_succ, List.set_cons_zero]
    refine flow_val (v := ?_) rfl ?_ ?_; rotate_left; (intro W hW; go_simp; with_reducible rfl)
    simp only [Act.put, List.setIfInBounds_toArray, List.set_cons_succ, List.set_cons_zero]
    refine flow_val (v := ?_) rfl ?_ ?_; rotate_left; (intro W hW; go_simp; with_reducible rfl)
    simp only [Act.put, List.setIfInBounds_toArray, List.set_cons_succ, List.set_cons_zero]
    refine flow_val (v := ?_) rfl ?_ ?_; rotate_left; (intro W hW; go_simp; with_reducible rfl)
    simp only [Act.put, List.setIfInBounds_toArray, List.set_cons_succ, List.set_cons_zero]
    refine flow_val (v := ?_) rfl ?_ ?_; rotate_left; (intro W hW; go_simp; with_reducible rfl)
    simp only [Act.put, List.setIfInBounds_toArray, List.set_cons_succ, List.set_cons_zero]
    refine flow_val (v := ?_) rfl ?_ ?_; rotate_left; (intro W hW; go_simp; with_reducible rfl)
    simp only [Act.put, List.setIfInBounds_toArray, List.set_cons_succ, List.set_cons_zero]
    refine flow_val (v := ?_) rfl ?_ ?_; rotate_left; (intro W hW; go_simp; with_reducible rfl)
    simp only [Act.put, List.setIfInBounds_toArray, List.set_cons_succ, List.set_cons_zero]
    refine flow_dead rfl rfl (by simp [*]) ?_
    simp only [Act.put, List.setIfInBounds_toArray, List.set_cons_succ, List.set_cons_zero]
    refine flow_dead rfl rfl (by simp [*]) ?_
    simp only [Act.put, List.setIfInBounds_toArray, List.set_cons_succ, List.set_cons_zero]
    refine flow_dead rfl rfl (by simp [*]) ?_
    simp only [Act.put, List.setIfInBounds_toArray, List.set_cons_succ, List.set_cons_zero]
    refine flow_dead rfl rfl (by simp [*]) ?_
    simp only [Act.put, List.setIfInBounds_toArray, List.set_cons_succ, List.set_cons_zero]
    refine flow_dead rfl rfl (by simp [*]) ?_
    simp only [Act.put, List.setIfInBounds_toArray, List.set_cons_succ, List.set_cons_zero]
    refine flow_dead rfl rfl (by simp [*]) ?_
    simp only [Act.put, List.setIfInBounds_toArray, List.set_cons_succ, List.set_cons_zero]
    refine flow_dead rfl rfl (by simp [*]) ?_
    simp only [Act.put, List.setIfInBounds_toArray, List.set_cons_succ, List.set_cons_zero]
    refine flow_dead rfl rfl (by simp [*]) ?_
    simp only [Act.put, List.setIfInBounds_toArray, List.set_cons_succ, List.set_cons_zero]
    refine flow_dead rfl rfl (by simp [*]) ?_
    simp only [Act.put, List.setIfInBounds_toArray, List.set_cons_succ, List.set_cons_zero]
    refine flow_dead rfl rfl (by simp [*]) ?_
    simp only [Act.put, List.setIfInBounds_toArray, List.set_cons_succ, List.set_cons_zero]
    refine flow_dead rfl rfl (by simp [*]) ?_
    simp only [Act.put, List.setIfInBounds_toArray, List.set_cons_succ, List.set_cons_zero]
    refine flow_dead rfl rfl (by simp [*]) ?_
    simp only [Act.put, List.setIfInBounds_toArray, List.set_cons_succ, List.set_cons_zero]
    first | refine flow_and rfl rfl ?_ | (refine flow_val (v := ?_) rfl ?_ ?_; rotate_left; (intro W hW; go_simp; with_reducible rfl))
    simp only [Act.put, List.setIfInBounds_toArray, List.set_cons_succ, List.set_cons_zero]
    intro W hW
    have HW := Lib.hid hW
    clear q0 q1 q2 q4 qd hW
    go_wp2
    go_ret
    exact ⟨congrArg (fun b => Ending.returned (.bool b)) Hk.out.symm, HW.out⟩
end Go.Proofs.YtbfoefkfcnaimaaGreat
namespace Go.Proofs.YtbfoefkfcnaimaaGreat
open Go.RowKit
theorem near_upto {N : Nat} {es : List (Int × Int)} (h : ∀ e ∈ es, 0 ≤ e.1 ∧ e.1 < N) : nearB (upto N) es = es.map fun e => e.1 := by
  unfold nearB
  apply List.map_congr_left
  intro e he
  obtain ⟨h1, h2⟩ := h e he
  rw [List.getD_eq_getElem?_getD, upto_get (by omega)]
  simp
  omega
set_option maxRecDepth 100000 in
set_option maxHeartbeats 8000000 in
theorem lGood_any (ve vi vn vl : Value) (n : Net) (most : Int) (acc : List Int → Nat → Bool) (fid : FuncId) (ls : List Int) (B b v : Nat) (w w0 : World) (h : NetIn w ve vi vn n) (hl : IntS w vl ls) (ha : LS w B ve vi vn (accV fid b) vl) (hn : netOk n = true) (hv : v < n.ends.length) (hU : Up n.ends.length most ls v)
    (henter : ∀ args w, (callFunc fid args).run Tryz.prog w = .ok (.enter fid args) w) (hacc : AccOn w0 fid b n most acc) (hw0 : Since w0 w) :
    Calls Tryz.prog 42 #[.pointer (some ⟨B, 0, none⟩), .int .i64 v] w fun e w' => e = .returned (.bool (goodG n acc ls v)) ∧ Below w.heap.size w w' := by
  have H := Lib.hid h
  have HL := Lib.hid hl
  have HA := Lib.hid ha
  have eg := henter
  have Hacc := Lib.hid hacc
  have Hw0 := Lib.hid hw0
  have hn40 := (netOk_len hn).2
  obtain ⟨n1, n2, n3, -, -⟩ := node_at hn hv
  obtain ⟨es, hes⟩ : ∃ es, es = n.ends.getD v [] := ⟨_, rfl⟩
  rw [← hes] at n1 n2 n3
  obtain ⟨vw, hvw⟩ : ∃ x, x = viewG n v := ⟨_, rfl⟩
  have hvl : vw.length = es.length + 1 := by rw [hvw, viewG_len, ← hes]; simp
  have Hvw := Lib.hid hvw
  have Hvs : Hid (vw = nearB (upto n.ends.length) es ++ [(v : Int)]) := by
    show _ = _
    rw [hvw, viewG, ← hes, near_upto n3]
  have N1 := Lib.hid n1
  have N3 := Lib.hid (show ∀ e ∈ es, 0 ≤ e.1 ∧ e.1 < (upto n.ends.length).length by rw [upto_len]; exact n3)
  have Hn := Lib.hid hn
  have HU := Lib.hid hU
  have Hll := Lib.hid hU.len
  have q0 := have_cell ha.c0
  have q1 := have_cell ha.c1
  have q2 := have_cell ha.c2
  have q3 := have_cell ha.c3
  have q4 := have_cell ha.c4
  obtain ⟨AL, cL, rfl, hlL, hmL, _⟩ := hl
  obtain ⟨⟨A, c, rfl, hlc, hm, _⟩, ⟨A2, c2', rfl, _, hm2', _⟩, ⟨A3, c3', rfl, _, hm3', _⟩⟩ := h
  have hln : nearB (upto n.ends.length) es ++ [(v : Int)] = vw := Hvs.out.symm
  have hnl : (nearB (upto n.ends.length) es).length = es.length := by simp [nearB]
  have Hln := Lib.hid hln
  have Hnl := Lib.hid hnl
  have llen : ls.length = n.ends.length := Hll.out
  clear ha hn n1 n3 hU hvw hes henter hacc hw0 hln hnl
  obtain ⟨nl, hnlx⟩ : ∃ x, x = ls.length := ⟨_, rfl⟩
  rw [llen] at hnlx
  subst hnlx
  rw [llen] at q4 HL HA hlL
  clear llen
  go_enter Tryz.func42, Tryz.ntmps42
  go_upto_region 1 with (fail)
  refine wp_region_fork (w0 := w) 17 [0, 0, 0, 0, 0, 0, 0, 0, 0, 0, 1, 1, 0, 2, 3, 3, 0] (fun _ W u => Lit1 v W u) (fun _ W W' u h hs => h.keep hs) (by kernel_rfl) (by kernel_rfl) (since_refl _) ?_
  rw [show idxN 2 ([0, 0, 0, 0, 0, 0, 0, 0, 0, 0, 1, 1, 0, 2, 3, 3, 0] : List Nat) = [13] from by decide]
  simp only [selN, List.take_succ_cons, List.take_zero, List.drop_succ_cons, List.drop_zero, if_true, if_false, reduceCtorEq, Nat.reduceEqDiff, reduceIte, Nat.zero_ne_one, Nat.one_ne_zero]
  refine pflow_val (v := ?_) rfl ?_ ?_; rotate_left; (intro W hW; go_simp; with_reducible rfl)
  simp only [Act.put, List.setIfInBounds_toArray, List.set_cons_succ, List.set_cons_zero]
  refine pflow_val (v := ?_) rfl ?_ ?_; rotate_left; (intro W hW; go_simp; with_reducible rfl)
  simp only [Act.put, List.setIfInBounds_toArray, List.set_cons_succ, List.set_cons_zero]
  refine pflow_val (v := ?_) rfl ?_ ?_; rotate_left; (intro W hW; go_simp; with_reducible rfl)
  simp only [Act.put, List.setIfInBounds_toArray, List.set_cons_succ, List.set_cons_zero]
  refine pflow_val (v := ?_) rfl ?_ ?_; rotate_left; (intro W hW; go_simp; with_reducible rfl)
  simp only [Act.put, List.setIfInBounds_toArray, List.set_cons_succ, List.set_cons_zero]
  refine pflow_val (v := ?_) rfl ?_ ?_; rotate_left; (intro W hW; go_simp; with_reducible rfl)
  simp only [Act.put, List.setIfInBounds_toArray, List.set_cons_succ, List.set_cons_zero]
  refine pflow_val (v := ?_) rfl ?_ ?_; rotate_left; (intro W hW; go_simp; with_reducible rfl)
  simp only [Act.put, List.setIfInBounds_toArray, List.set_cons_succ, List.set_cons_zero]
  refine pflow_val (v := ?_) rfl ?_ ?_; rotate_left; (intro W hW; go_simp; with_reducible rfl)
  simp only [Act.put, List.setIfInBounds_toArray, List.set_cons_succ, List.set_cons_zero]
  refine pflow_val (v := ?_) rfl ?_ ?_; rotate_left; (intro W hW; go_simp; with_reducible rfl)
  simp only [Act.put, List.setIfInBounds_toArray, List.set_cons_succ, List.set_cons_zero]
  refine pflow_val (v := ?_) rfl ?_ ?_; rotate_left; (intro W hW; go_simp; with_reducible rfl)
  simp only [Act.put, List.setIfInBounds_toArray, List.set_cons_succ, List.set_cons_zero]
  refine pflow_val (v := ?_) rfl ?_ ?_; rotate_left; (intro W hW; go_simp; with_reducible rfl)
  simp only [Act.put, List.setIfInBounds_toArray, List.set_cons_succ, List.set_cons_zero]
  refine pflow_val (v := ?_) rfl ?_ ?_; rotate_left; (intro W hW; go_simp; with_reducible rfl)
  simp only [Act.put, List.setIfInBounds_toArray, List.set_cons_succ, List.set_cons_zero]
  refine pflow_val (v := ?_) rfl ?_ ?_; rotate_left; (intro W hW; go_simp; with_reducible rfl)
  simp only [Act.put, List.setIfInBounds_toArray, List.set_cons_succ, List.set_cons_zero]
  refine ⟨?_, ?_⟩
  · intro j hj
    obtain rfl := List.mem_singleton.1 hj
    intro o ho
    cases ho
    refine ⟨rfl, fun W hW => ?_⟩
    unfold GivesAny
    go_simp
    all_goals (first | exact Lit1.new _ _ _ | exact ⟨Lit1.new _ _ _, since_alloc _ (since_refl _)⟩)
  intro W hW
  intro W1 h1
  have hW1 := Since.after hW h1
  refine ⟨rfl, ?_⟩
  go_simp
  (with_reducible refine (numbersTo_any n.ends.length (by omega) W1).mono ?_)
  rintro e W ⟨u, rfl, ho, hb⟩
  refine ⟨_, rfl, hb, ?_⟩
  have hW := hW1.after (hb)
  have HO := Lib.hid ho; clear ho hb
  (try simp only [Act.put, List.setIfInBounds_toArray, List.set_cons_succ, List.set_cons_zero])
  intro W1 h1
  have hW1 := Since.after hW h1
  refine ⟨rfl, ?_⟩
  go_simp
  (with_reducible refine (near_any _ _ _ _ n (upto n.ends.length) v es W1 (H.out.keep hW1.below) (HO.out.since h1).ints N1.out (by omega) N3.out).mono ?_)
  rintro e W ⟨u, rfl, ho, hb⟩
  refine ⟨_, rfl, hb, ?_⟩
  have hW := hW1.after (hb)
  have HP := Lib.hid (ho.mono (Since.below hW1).size); clear ho hb
  (try simp only [Act.put, List.setIfInBounds_toArray, List.set_cons_succ, List.set_cons_zero])
  intro us W h1 hU
  have hW := Since.after hW h1
  have hU13 : (fun _ W u => Lit1 v W u) 13 W (us 13) := by first | exact hU 13 (by simp) | exact hU
  (try simp only [] at hU13)
  simp only [putAll, List.getElem?_toArray, List.getElem?_cons_succ, List.getElem?_cons_zero]
  (try simp only [Act.put, List.setIfInBounds_toArray, List.set_cons_succ, List.set_cons_zero])
  obtain ⟨u13, hu13⟩ : ∃ x, x = us 13 := ⟨_, rfl⟩
  rw [← hu13] at hU13 ⊢
  clear hu13
  clear hU us
  obtain ⟨gu, rfl, hgu⟩ := hU13; have HP2 := Lib.hid (HP.out.since h1)
  refine tflow_of_wp (fun Q' HQ => ?_)
  (refine app_int_s (w0 := w) rfl _ _ rfl rfl HP2.out gu v rfl hgu (by rw [Hnl.out]; omega) hW ?_); intro g cc w3 ho3 hs3; refine HQ _ _ hs3 ?_; have Ho3 := Lib.hid ho3; replace hW : Since w w3 := hs3; clear ho3 hs3
  (try simp only [Act.put, List.setIfInBounds_toArray, List.set_cons_succ, List.set_cons_zero])
  refine tflow_val (v := ?_) rfl ?_ hW ?_; rotate_left; (go_simp; with_reducible rfl)
  simp only [Act.put, List.setIfInBounds_toArray, List.set_cons_succ, List.set_cons_zero]
  simp only [TFlow]
  rw [Hln.out, Hnl.out] at Ho3
  rw [Hnl.out]
  have Hs3 := Lib.hid hW
  clear hW
  go_wp2
  go_loopw [23] (fun i wr => ∃ j : Nat, j ≤ es.length + 1 ∧ i = .int .i64 j ∧ (vw.take j).all (fun x => !knownB n x v || acc ls x.toNat) = true ∧ Since w3 wr) (fun i _ => es.length + 1 - (intOf i).toNat)
  case atStart => exact ⟨0, Nat.zero_le _, rfl, rfl, since_refl _⟩
  case round =>
    obtain ⟨j, hj, rfl, hall, hsr⟩ := hrel
    have Hall := Lib.hid hall
    clear hall
    by_cases hlt : j < es.length + 1
    · obtain ⟨x, hx⟩ := getx vw j (by omega)
      have hxin := view_in Hn.out hv x (by have := List.mem_of_getElem? hx; rwa [Hvw.out] at this)
      obtain ⟨k, rfl⟩ := Int.eq_ofNat_of_zero_le hxin.1
      have hk : k < n.ends.length := by omega
      have cx := hsr.cell (Ho3.out.cell hx)
      have hsw := Hs3.out.after hsr
      have Hx := Lib.hid hx
      have hfk := full_known Hn.out HU.out (w := (k : Int)) (by omega) (by omega)
      have Hfk := Lib.hid hfk
      have e3 := lift_cell q3 hsw
      have e4 := lift_cell q4 hsw
      have Hse : Hid (fullB n ls (k : Int) = true → ∀ x ∈ ls.getD k 0 :: nearB ls (n.ends.getD k []), 0 ≤ x ∧ x ≤ most) := fun h => by
        have := known_seen Hn.out HU.out (w := (k : Int)) (by omega) (by omega) (by rw [← Hfk.out]; exact h)
        rwa [Int.toNat_natCast] at this
      unfold accV at e3
      clear hx hxin hfk
      go_upto_region 4 with (fail)
      refine wp_region_flow 16 (Since wr) (by kernel_rfl) (by kernel_rfl) (by simp) (since_drew (since_refl _)) ?_
      simp only [List.take_succ_cons, List.take_zero, List.drop_succ_cons, List.drop_zero]
      refine flow_val (v := ?_) rfl ?_ ?_; rotate_left; (intro W hW; go_simp; with_reducible rfl)
      simp only [Act.put, List.setIfInBounds_toArray, List.set_cons_succ, List.set_cons_zero]
      refine flow_val (v := ?_) rfl ?_ ?_; rotate_left; (intro W hW; go_simp; with_reducible rfl)
      simp only [Act.put, List.setIfInBounds_toArray, List.set_cons_succ, List.set_cons_zero]
      refine flow_op ?_ rfl ?_ ?_; rotate_left; (intro W hW; unfold Gives; go_simp; (with_reducible refine (complete_any _ _ _ _ _ n ls B k W (H.out.keep (hsw.after hW).below) (HL.out.keep (hsw.after hW).below) (HA.out.since (hsw.after hW)) Hn.out hk Hll.out).mono ?_); rintro e W' ⟨rfl, hb3⟩; first | (refine ⟨?_, Since.trans hW hb3⟩; with_reducible rfl) | (subst hb3; refine ⟨?_, hW⟩; with_reducible rfl))
      simp only [Act.put, List.setIfInBounds_toArray, List.set_cons_succ, List.set_cons_zero]
      refine flow_val (v := ?_) rfl ?_ ?_; rotate_left; (intro W hW; go_simp; with_reducible rfl)
      simp only [Act.put, List.setIfInBounds_toArray, List.set_cons_succ, List.set_cons_zero]
      refine flow_gval (v := ?_) rfl rfl ?_ ?_; rotate_left; (intro hb W hW; go_simp; with_reducible rfl)
      simp only [Act.put, List.setIfInBounds_toArray, List.set_cons_succ, List.set_cons_zero]
      refine flow_gval (v := ?_) rfl rfl ?_ ?_; rotate_left; (intro hb W hW; go_simp; with_reducible rfl)
      simp only [Act.put, List.setIfInBounds_toArray, List.set_cons_succ, List.set_cons_zero]
      refine flow_gval (v := ?_) rfl rfl ?_ ?_; rotate_left; (intro hb W hW; go_simp; with_reducible rfl)
      simp only [Act.put, List.setIfInBounds_toArray, List.set_cons_succ, List.set_cons_zero]
      refine flow_gval (v := ?_) rfl rfl ?_ ?_; rotate_left; (intro hb W hW; go_simp; with_reducible rfl)
      simp only [Act.put, List.setIfInBounds_toArray, List.set_cons_succ, List.set_cons_zero]
      refine flow_gval (v := ?_) rfl rfl ?_ ?_; rotate_left; (intro hb W hW; go_simp; with_reducible rfl)
      simp only [Act.put, List.setIfInBounds_toArray, List.set_cons_succ, List.set_cons_zero]
      refine flow_gval (v := ?_) rfl rfl ?_ ?_; rotate_left; (intro hb W hW; go_simp; with_reducible rfl)
      simp only [Act.put, List.setIfInBounds_toArray, List.set_cons_succ, List.set_cons_zero]
      refine flow_gval (v := ?_) rfl rfl ?_ ?_; rotate_left; (intro hb W hW; go_simp; with_reducible rfl)
      simp only [Act.put, List.setIfInBounds_toArray, List.set_cons_succ, List.set_cons_zero]
      refine flow_gval (v := ?_) rfl rfl ?_ ?_; rotate_left; (intro hb W hW; go_simp; with_reducible rfl)
      simp only [Act.put, List.setIfInBounds_toArray, List.set_cons_succ, List.set_cons_zero]
      refine flow_gval (v := ?_) rfl rfl ?_ ?_; rotate_left; (intro hb W hW; go_simp; with_reducible rfl)
      simp only [Act.put, List.setIfInBounds_toArray, List.set_cons_succ, List.set_cons_zero]
      refine flow_gop (v := ?_) rfl rfl ?_ ?_; rotate_left; (intro hb W hW; unfold Gives; go_simp; (with_reducible refine (Hacc.out.use W _ ls k (Hw0.out.after (hsw.after hW)) (HL.out.keep (hsw.after hW).below) Hll.out hk (Hse.out hb)).mono ?_); rintro e W' ⟨rfl, hb3⟩; first | (refine ⟨?_, Since.trans hW hb3⟩; with_reducible rfl) | (subst hb3; refine ⟨?_, hW⟩; with_reducible rfl))
      simp only [Act.put, List.setIfInBounds_toArray, List.set_cons_succ, List.set_cons_zero]
      refine flow_gval (v := ?_) rfl rfl ?_ ?_; rotate_left; (intro hb W hW; go_simp; with_reducible rfl)
      simp only [Act.put, List.setIfInBounds_toArray, List.set_cons_succ, List.set_cons_zero]
      first | refine flow_and rfl rfl ?_ | (refine flow_val (v := ?_) rfl ?_ ?_; rotate_left; (intro W hW; go_simp; with_reducible rfl))
      simp only [Act.put, List.setIfInBounds_toArray, List.set_cons_succ, List.set_cons_zero]
      intro W hW
      have hs3 := hsr.after hW
      clear cx e3 e4 hW hsw hsr
      cases hg : (fullB n ls (k : Int) && !acc ls k)
      · have Hp : Hid ((vw.take (j + 1)).all (fun x => !knownB n x v || acc ls x.toNat) = true) := all_take_snoc Hx.out Hall.out (by
          rw [← Hfk.out, Int.toNat_natCast]
          revert hg
          cases fullB n ls (k : Int) <;> cases acc ls k <;> simp)
        clear hg
        go_wp2
        go_roundw
        case rel => exact ⟨j + 1, by omega, by go_num, Hp.out, hs3⟩
        case measure => simp [intOf]; omega
      · have Hr : Hid (goodG n acc ls v = false) := by
          show _ = _
          unfold goodG
          rw [← Hvw.out]
          refine all_stop Hx.out ?_
          rw [← Hfk.out, Int.toNat_natCast]
          revert hg
          cases fullB n ls (k : Int) <;> cases acc ls k <;> simp
        clear hg
        go_wp2
        go_ret
        exact ⟨congrArg (fun b => Ending.returned (.bool b)) Hr.out.symm, Hs3.out.after hs3⟩
    · obtain rfl : j = es.length + 1 := by omega
      have Hr : Hid (goodG n acc ls v = true) := by
        show _ = _
        unfold goodG
        rw [← Hvw.out]
        have := Hall.out
        rwa [take_all vw (by omega)] at this
      go_wp2
      go_ret
      exact ⟨congrArg (fun b => Ending.returned (.bool b)) Hr.out.symm, Hs3.out.after hsr⟩
end Go.Proofs.YtbfoefkfcnaimaaGreat
namespace Go.Proofs.YtbfoefkfcnaimaaGreat
open Go.RowKit
def srchA (n : Net) (acc : List Int → Nat → Bool) (most lim : Int) : List Int × Int × Int := srch (goodG n acc) most lim (leftM lim 0 n.ends.length 0) (List.replicate n.ends.length (-1)) 0 0
theorem tupuii {u : Value} {r : List Int × Int × Int} {a b : Int} (h : r.2 = (a, b)) : Ending.returned (.tuple #[u, .int .i64 a, .int .i64 b]) = .returned (.tuple #[u, .int .i64 r.2.1, .int .i64 r.2.2]) := by rw [h]
set_option maxRecDepth 100000 in
set_option maxHeartbeats 16000000 in
theorem lRun_any (ve vi vn vl : Value) (n : Net) (most lim : Int) (acc : List Int → Nat → Bool) (fid : FuncId) (B b : Nat) (w w0 : World) (h : NetIn w0 ve vi vn n) (hs0 : Since w0 w) (hB : w0.heap.size ≤ B) (ha : LS w B ve vi vn (accV fid b) vl) (hn : netOk n = true) (hm0 : 0 ≤ most) (hm1 : most ≤ 999999999999) (hl0 : 0 ≤ lim) (hl1 : lim ≤ 1000000000)
    (henter : ∀ args w, (callFunc fid args).run Tryz.prog w = .ok (.enter fid args) w) (hacc : AccOn w0 fid b n most acc) :
    Calls Tryz.prog 26 #[.pointer (some ⟨B, 0, none⟩), .int .i64 most, .int .i64 lim] w fun e w' => ∃ u, e = .returned (.tuple #[u, .int .i64 (srchA n acc most lim).2.1, .int .i64 (srchA n acc most lim).2.2]) ∧ Own w' w0.heap.size u (srchA n acc most lim).1 ∧ Since w0 w' := by
  have H := Lib.hid h
  have Hn := Lib.hid hn
  have eg := Lib.hid henter
  have Hacc := Lib.hid hacc
  have hnl := netOk_len hn
  obtain ⟨R, hR⟩ : ∃ R, R = srchA n acc most lim := ⟨_, rfl⟩
  have HR := Lib.hid hR
  rw [← hR]
  clear hR hn henter hacc
  have q0 := ha.c0
  have q1 := ha.c1
  have q2 := ha.c2
  have HA := Lib.hid ha
  have Hs0 := Lib.hid hs0
  have HN := Lib.hid (h.keep hs0.below)
  obtain ⟨⟨A, c, rfl, hlc, hm, _⟩, ⟨A2, c2', rfl, _, hm2', _⟩, ⟨A3, c3', rfl, _, hm3', _⟩⟩ := h
  clear ha hs0
  go_enter Tryz.func26, Tryz.ntmps26
  go_wp2_with fail
  refine (noMatching_any _ _ _ n w HN.out hnl.1 (by omega)).mono ?_
  rintro e w1 ⟨u1, rfl, ho1, hb1⟩
  rcases ho1.cases with ⟨-, e1⟩ | ⟨g, c1, rfl, hg1, hg2⟩
  · have := congrArg List.length e1; rw [List.length_replicate, List.length_nil] at this; omega
  rw [List.length_replicate] at ho1 ⊢
  have HA1 := Lib.hid (HA.out.since hb1)
  have hc81 := HA1.out.c4
  have hB81 := HA1.out.fz 4
  have hgB : g ≠ B := fun e => by have h1 := HA.out.lt; have h2 : w.heap.size ≤ g := hg1; rw [e] at h2; omega
  obtain ⟨w2, hw2⟩ : ∃ w2, w2 = w1.setCell ⟨B, 4, none⟩ (.slice (some ⟨g, 0, none⟩) n.ends.length c1) := ⟨_, rfl⟩
  have HA2 : Hid (LS w2 B (.slice A n.ends.length c) (.slice A2 n.ids.length c2') (.slice A3 n.inputs.length c3') (accV fid b) (.slice (some ⟨g, 0, none⟩) n.ends.length c1)) := by rw [hw2]; exact HA1.out.setL _
  have Ho2 : Hid (Own w2 w0.heap.size (.slice (some ⟨g, 0, none⟩) n.ends.length c1) (List.replicate n.ends.length (-1))) := by
    rw [hw2]
    exact own_other (ho1.mono Hs0.out.below.size) (by simpa [Value.ownBlock] using hgB) _
  have Hs2 : Hid (Since w0 w2) := by rw [hw2]; exact Below.setCell (Since.trans Hs0.out hb1) hB _
  have Hw2 := Lib.hid hw2
  have Hgw : Hid (w0.heap.size ≤ g) := Nat.le_trans Hs0.out.below.size hg1
  clear ho1 hb1 hw2 q0 q1 q2 hg1 hg2
  go_upto_region 2 with (fail)
  rw [← Hw2.out]
  clear hc81 hB81
  go_wp2
  go_loopw [9, 10] (fun mv i wr => ∃ (f : Nat) (ls : List Int) (v : Nat) (made : Int), Since w0 wr ∧ LS wr B (.slice A n.ends.length c) (.slice A2 n.ids.length c2') (.slice A3 n.inputs.length c3') (accV fid b) (.slice (some ⟨g, 0, none⟩) n.ends.length c1) ∧ Own wr w0.heap.size (.slice (some ⟨g, 0, none⟩) n.ends.length c1) ls ∧ ls.length = n.ends.length ∧ 0 ≤ made ∧ made ≤ lim ∧ mv = .int .i64 made ∧
      i = .int .i64 v ∧ v ≤ n.ends.length ∧ St n.ends.length most ls v ∧ leftM lim made n.ends.length v ≤ f ∧ srch (goodG n acc) most lim f ls v made = R) (fun mv i _ => (intOf i).toNat + (lim - intOf mv).toNat * (n.ends.length + 2))
  case atStart => exact ⟨_, _, 0, 0, Hs2.out, HA2.out, Ho2.out, by simp, Int.le_refl _, hl0, rfl, rfl, Nat.zero_le _, St.start _ _ hm0, Nat.le_refl _, HR.out.symm⟩
  case round =>
    obtain ⟨f, ls, v, made, hs, ha, ho, hll, hmd0, hml, rfl, rfl, hv, hst, hf, hR⟩ := hrel
    have HAr := Lib.hid ha
    have Ho := Lib.hid ho
    have b4 := ha.c4
    have Hll := Lib.hid hll
    obtain ⟨f, rfl⟩ : ∃ f', f = f' + 1 := ⟨f - 1, by unfold leftM at hf; omega⟩
    have HR' := Lib.hid hR
    have Hst := Lib.hid hst
    have Hf := Lib.hid hf
    have Hs := Lib.hid hs
    clear ha ho hll hR hst hf hs
    by_cases hlt : v < n.ends.length
    · obtain ⟨x, hx⟩ : ∃ x, x = ls.getD v 0 := ⟨_, rfl⟩
      have cx := Ho.out.cell (getD_some (show v < ls.length by rw [Hll.out]; exact hlt))
      have fx := Ho.out.free v
      rw [← hx] at cx
      have hxb := Hst.out.at_ hlt
      rw [← hx] at hxb
      have Hx2 : Hid (ls.getD v 0 = x) := hx.symm
      have Hlv : Hid (v < ls.length) := by rw [Hll.out]; exact hlt
      clear hx
      by_cases hxm : x = most
      · subst hxm
        have m1 : IntKind.i64.wrap ((v : Int) - 1) = (v : Int) - 1 := wr64 _ (by omega) (by omega)
        by_cases hv0 : v = 0
        · subst hv0
          have hRe : Hid (R = ([], 2, made)) := by rw [← HR'.out]; exact srch_none Hlv.out Hx2.out
          go_wp2
          first | go_ret3 | fail
          exact ⟨_, tupuii (by rw [hRe.out]), by rw [hRe.out]; exact own_nil _ _, Below.setCell Hs.out Hgw.out _⟩
        · have hvn : ¬ ((v : Int) - 1 < 0) := by omega
          go_wp2
          go_roundw
          case rel =>
            refine ⟨f, ls.set v (-1), v - 1, made, Below.setCell Hs.out Hgw.out _, HAr.out.other (Ne.symm hgB) v _, Ho.out.set (k := v) (-1), by rw [List.length_set]; exact Hll.out, hmd0, hml, rfl, by congr 1; omega, by omega, Hst.out.back hv0, ?_, ?_⟩
            · have := left_back (lim := lim) (made := made) (N := n.ends.length) hv0
              have := Hf.out
              omega
            · rw [← HR'.out, srch_back Hlv.out Hx2.out hv0]
          case measure => simp only [intOf]; omega
      · have Hxm : Hid (¬ ls.getD v 0 = most) := by show ¬ _; rw [Hx2.out]; exact hxm
        have hxf : (x == most) = false := by rw [beq_eq_false_iff_ne]; exact hxm
        by_cases hml2 : made = lim
        · subst hml2
          have hRe : Hid (R = ([], 3, made)) := by rw [← HR'.out]; exact srch_stop Hlv.out Hxm.out
          go_wp2
          first | go_ret3 | fail
          exact ⟨_, tupuii (by rw [hRe.out]), by rw [hRe.out]; exact own_nil _ _, Hs.out⟩
        · have hmf : (made == lim) = false := by rw [beq_eq_false_iff_ne]; exact hml2
          have m1 : IntKind.i64.wrap (made + 1) = made + 1 := wr64 _ (by omega) (by omega)
          have m2 : IntKind.i64.wrap (x + 1) = x + 1 := wr64 _ (by omega) (by omega)
          have m3 : IntKind.i64.wrap ((v : Int) + 1) = (v : Int) + 1 := wr64 _ (by omega) (by omega)
          obtain ⟨w4, hw4⟩ : ∃ w4, w4 = wr.setCell ⟨g, v, none⟩ (.int .i64 (x + 1)) := ⟨_, rfl⟩
          have HA4 : Hid (LS w4 B (.slice A n.ends.length c) (.slice A2 n.ids.length c2') (.slice A3 n.inputs.length c3') (accV fid b) (.slice (some ⟨g, 0, none⟩) n.ends.length c1)) := by rw [hw4]; exact HAr.out.other (Ne.symm hgB) _ _
          have Ho4 : Hid (Own w4 w0.heap.size (.slice (some ⟨g, 0, none⟩) n.ends.length c1) (ls.set v (x + 1))) := by rw [hw4]; exact Ho.out.set (k := v) (x + 1)
          have Hs4 : Hid (Since w0 w4) := by rw [hw4]; exact Below.setCell Hs.out Hgw.out _
          have Hw4 := Lib.hid hw4
          have HU : Hid (Up n.ends.length most (ls.set v (x + 1)) v) := by
            have := Hst.out.up hlt Hxm.out
            rw [Hx2.out] at this
            exact this
          have HI4 := Lib.hid Ho4.out.ints
          clear hw4
          go_upto_region 13 with (fail)
          rw [← Hw4.out]
          clear b4 cx fx
          go_wp2_with fail
          refine (lGood_any _ _ _ _ n most acc fid (ls.set v (x + 1)) B b v w4 w0 (H.out.keep Hs4.out.below) HI4.out HA4.out Hn.out hlt HU.out eg.out Hacc.out Hs4.out).mono ?_
          rintro e w5 ⟨rfl, hb5⟩
          have HA5 := Lib.hid (HA4.out.since hb5)
          have Ho5 := Lib.hid (Ho4.out.keep hb5)
          have Hs5 := Lib.hid (Hs4.out.trans hb5)
          have Hnx := HR'.out
          rw [srch_inc Hlv.out Hxm.out hml2, Hx2.out] at Hnx
          have HNx := Lib.hid Hnx
          clear hb5 Hnx
          cases hgd : goodG n acc (ls.set v (x + 1)) v
          · have Hgd := Lib.hid hgd
            clear hgd
            go_wp2
            go_roundw
            case rel =>
              refine ⟨f, ls.set v (x + 1), v, made + 1, Hs5.out, HA5.out, Ho5.out, by rw [List.length_set]; exact Hll.out, by omega, by omega, by go_num, rfl, by omega, HU.out.stay, ?_, ?_⟩
              · have := left_inc (N := n.ends.length) (v := v) (v' := v) hml hml2 (by omega)
                have := Hf.out
                omega
              · have := HNx.out
                rw [Hgd.out] at this
                simpa using this
            case measure =>
              simp only [intOf]
              have := left_inc (N := n.ends.length) (v := v) (v' := v) hml hml2 (by omega)
              unfold leftM at this
              omega
          · have Hgd := Lib.hid hgd
            clear hgd
            go_wp2
            go_roundw
            case rel =>
              refine ⟨f, ls.set v (x + 1), v + 1, made + 1, Hs5.out, HA5.out, Ho5.out, by rw [List.length_set]; exact Hll.out, by omega, by omega, by go_num, by go_num, by omega, HU.out.on hm0, ?_, ?_⟩
              · have := left_inc (N := n.ends.length) (v := v) (v' := v + 1) hml hml2 (by omega)
                have := Hf.out
                omega
              · have := HNx.out
                rw [Hgd.out] at this
                simpa using this
            case measure =>
              simp only [intOf]
              have := left_inc (N := n.ends.length) (v := v) (v' := v + 1) hml hml2 (by omega)
              unfold leftM at this
              omega
    · obtain rfl : v = n.ends.length := by omega
      have hRe : Hid (R = (ls, 1, made)) := by rw [← HR'.out]; exact srch_end (by rw [Hll.out]; omega)
      go_wp2
      first | go_ret3 | fail
      exact ⟨_, tupuii (by rw [hRe.out]), by rw [hRe.out]; exact Ho.out, Hs.out⟩
end Go.Proofs.YtbfoefkfcnaimaaGreat
