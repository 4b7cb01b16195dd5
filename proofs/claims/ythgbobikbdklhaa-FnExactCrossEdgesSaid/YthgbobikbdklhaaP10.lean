/- Parts of the proof: walks of functions and plain laws. -/
import Derived.Test.YthgbobikbdklhaaP8
import Derived.Test.YthgbobikbdklhaaP9
import Derived.Test.YthgbobikbdklhaaP7
namespace Go.Proofs.Ythgbobikbdklhaa
open Go.RowKit
/-! a network with two edges crossed -/
def putEnd (ess : List (List (Int × Int))) (p q : Int × Int) : List (List (Int × Int)) := ess.set p.1.toNat ((ess.getD p.1.toNat []).set p.2.toNat q)
theorem putEnd_len (ess : List (List (Int × Int))) (p q : Int × Int) : (putEnd ess p q).length = ess.length := by simp [putEnd]
theorem putEnd_row (ess : List (List (Int × Int))) (p q : Int × Int) (k : Nat) : ((putEnd ess p q).getD k []).length = (ess.getD k []).length := by
  unfold putEnd
  by_cases h : p.1.toNat = k
  · subst h
    by_cases hl : p.1.toNat < ess.length
    · simp [List.getD_eq_getElem?_getD, hl]
    · simp [List.getD_eq_getElem?_getD, hl]
  · simp [List.getD_eq_getElem?_getD, List.getElem?_set_ne h]
theorem putEnd_port (ess : List (List (Int × Int))) (p q : Int × Int) (v i : Int) : hasPortB (putEnd ess p q) v i = hasPortB ess v i := by
  unfold hasPortB
  rw [putEnd_len, putEnd_row]
def crossE (n : Net) (v i x j : Int) : List (List (Int × Int)) :=
  putEnd (putEnd (putEnd (putEnd n.ends (v, i) (endAt n.ends x j)) (endAt n.ends x j) (v, i)) (x, j) (endAt n.ends v i)) (endAt n.ends v i) (x, j)
/-- the copy while it is crossed -/
structure Cr (wa W : World) (ob b1 b2 g c m : Nat) (vi vn : Value) (N : Net) (S : List Nat) (a e : Int × Int) : Prop where
  own : OwnNet W wa.heap.size (.slice (some ⟨g, 0, none⟩) m c) vi vn N S
  len : N.ends.length = m
  box : BoxN W ob (.slice (some ⟨g, 0, none⟩) m c) vi vn
  e1 : E2 W 57 b1 a.1 a.2
  e2 : E2 W 57 b2 e.1 e.2
  nb : ob ∉ S ∧ b1 ∉ S ∧ b2 ∉ S
  since : Since wa W
theorem Cr.keep {wa W W' : World} {ob b1 b2 g c m : Nat} {vi vn : Value} {N : Net} {S : List Nat} {a e : Int × Int} (h : Cr wa W ob b1 b2 g c m vi vn N S a e) (hs : Since W W') : Cr wa W' ob b1 b2 g c m vi vn N S a e :=
  ⟨h.own.keep hs.below, h.len, h.box.since hs, (hs.block _ h.e1.lt).trans h.e1, (hs.block _ h.e2.lt).trans h.e2, h.nb, h.since.after hs⟩
theorem Cr.drew {wa W : World} {ob b1 b2 g c m : Nat} {vi vn : Value} {N : Net} {S : List Nat} {a e : Int × Int} (h : Cr wa W ob b1 b2 g c m vi vn N S a e) : Cr wa W.drew ob b1 b2 g c m vi vn N S a e := h.keep (since_drew (since_refl _))
/-- where a port of the copy lies, and the copy behind a store there -/
theorem Cr.port {wa W : World} {ob b1 b2 g c m : Nat} {vi vn : Value} {N : Net} {S : List Nat} {a e : Int × Int} (h : Cr wa W ob b1 b2 g c m vi vn N S a e) {v i : Int} (hp : hasPortB N.ends v i = true) :
    ∃ (k j gr cr l : Nat), v = (k : Int) ∧ i = (j : Int) ∧ k < m ∧ j < l ∧ l ≤ cr ∧ cr ≤ 9223372036854775807 ∧ W.cell? ⟨g, k, none⟩ = some (.slice (some ⟨gr, 0, none⟩) l cr) ∧ g ≠ gr ∧ gr ≠ ob ∧ gr ≠ b1 ∧ gr ≠ b2 ∧ W.frozen? ⟨gr, j * 2, none⟩ = false ∧ W.frozen? ⟨gr, j * 2 + 1, none⟩ = false ∧ (∃ z, W.cell? ⟨gr, j * 2, none⟩ = some z) ∧ (∃ z, W.cell? ⟨gr, j * 2 + 1, none⟩ = some z) ∧
      ∀ y : Int × Int, Cr wa ((W.setCell ⟨gr, j * 2, none⟩ (.int .i64 y.1)).setCell ⟨gr, j * 2 + 1, none⟩ (.int .i64 y.2)) ob b1 b2 g c m vi vn { N with ends := putEnd N.ends (v, i) y } S a e := by
  unfold hasPortB at hp
  rw [Bool.and_eq_true] at hp
  obtain ⟨p1, p2⟩ := hp
  obtain ⟨p3, p4⟩ := inB_iff.1 p1
  obtain ⟨k, rfl⟩ := Int.eq_ofNat_of_zero_le p3
  have hk : k < N.ends.length := by omega
  obtain ⟨es, hes⟩ := getx N.ends k hk
  rw [Int.toNat_natCast, getD_of hes] at p2
  obtain ⟨p5, p6⟩ := inB_iff.1 p2
  obtain ⟨j, rfl⟩ := Int.eq_ofNat_of_zero_le p5
  have hj : j < es.length := by omega
  obtain ⟨gr, cr, c1, c2, c3, c4, c5, c6, ⟨c7, c8⟩, c9, c10, hup⟩ := h.own.setEnd hes hj
  have hgs : wa.heap.size ≤ gr := (h.own.range gr c5).1
  have hn : ∀ b, b ∉ S → gr ≠ b := fun b hb e => hb (e ▸ c5)
  unfold maxLen at c3
  refine ⟨k, j, gr, cr, es.length, rfl, rfl, by have := h.len; omega, hj, c2, by omega, c1, c6, hn _ h.nb.1, hn _ h.nb.2.1, hn _ h.nb.2.2, c7, c8, c9, c10, fun y => ⟨?_, by rw [← h.len]; exact putEnd_len _ _ _, ?_, ?_, ?_, h.nb, ?_⟩⟩
  · have := hup y
    unfold putEnd
    simp only [Int.toNat_natCast, getD_of hes]
    exact this
  · exact (h.box.other (hn _ h.nb.1).symm).other (hn _ h.nb.1).symm
  · exact (h.e1.other (hn _ h.nb.2.1).symm _ _).other (hn _ h.nb.2.1).symm _ _
  · exact (h.e2.other (hn _ h.nb.2.2).symm _ _).other (hn _ h.nb.2.2).symm _ _
  · exact (h.since.setCell hgs _).setCell hgs _
theorem port_nat {ess : List (List (Int × Int))} {v i : Int} (hp : hasPortB ess v i = true) : ∃ k j : Nat, v = (k : Int) ∧ i = (j : Int) := by
  unfold hasPortB at hp
  rw [Bool.and_eq_true] at hp
  obtain ⟨p3, _⟩ := inB_iff.1 hp.1
  obtain ⟨p5, _⟩ := inB_iff.1 hp.2
  exact ⟨v.toNat, i.toNat, by omega, by omega⟩
set_option maxRecDepth 100000 in
set_option maxHeartbeats 8000000 in
theorem atCross_any (ve vi vn : Value) (n : Net) (v i x j : Int) (w : World) (h : NetIn w ve vi vn n) (hn : netOk n = true) (hsz : szNet n ≤ 1048576) (hp : hasPortB n.ends v i = true) (hq : hasPortB n.ends x j = true) :
    Calls Try.prog 41 #[.agg #[ve, vi, vn], .int .i64 v, .int .i64 i, .int .i64 x, .int .i64 j] w (NewNet w { n with ends := crossE n v i x j }) := by
  obtain ⟨hbp, -⟩ := netOk_end hn hp
  obtain ⟨hbq, -⟩ := netOk_end hn hq
  obtain ⟨w0, hw0⟩ : ∃ w0, w0 = (w).alloc (.cells #[ve, vi, vn] 32) := ⟨_, rfl⟩
  have hb0 : Below w.heap.size w w0 := by rw [hw0]; exact ((Below.refl _ _).alloc (by simp) _)
  have H := Lib.hid (h.keep hb0)
  obtain ⟨h1, h2, h3⟩ := h.keep hb0
  obtain ⟨A, c, rfl, hlc, hm, hA⟩ := h1
  obtain ⟨A2, c2, rfl, _, hm2, _⟩ := h2
  obtain ⟨A3, c3, rfl, _, hm3, _⟩ := h3
  unfold maxLen at hm hm2 hm3
  have p00 : ∀ W, Since w0 W → W.cell? ⟨w.heap.size, 0, none⟩ = some (.slice A n.ends.length c) := have_cell (by rw [hw0]; simp)
  have p01 : ∀ W, Since w0 W → W.cell? ⟨w.heap.size, 1, none⟩ = some (.slice A2 n.ids.length c2) := have_cell (by rw [hw0]; simp)
  have p02 : ∀ W, Since w0 W → W.cell? ⟨w.heap.size, 2, none⟩ = some (.slice A3 n.inputs.length c3) := have_cell (by rw [hw0]; simp)
  have Hb0 := Lib.hid hb0
  have Hw0 := Lib.hid hw0
  have HA := Lib.hid hA
  clear hA h
  clear hb0 hw0
  obtain ⟨wa, hwa⟩ : ∃ wa, wa = w0.alloc (.cells #[.slice none 0 0, .slice none 0 0, .slice none 0 0] 32) := ⟨_, rfl⟩
  have hsa : Since w0 wa := by rw [hwa]; exact since_alloc _ (since_refl _)
  have h01 : w0.heap.size = w.heap.size + 1 := by rw [Hw0.out]; simp
  have Hza : Hid (wa.heap.size = w.heap.size + 1 + 1) := by show _ = _; rw [hwa, ← h01]; simp
  have HRb : Hid (∀ X, Since wa X → BoxN X (w.heap.size + 1) (.slice none 0 0) (.slice none 0 0) (.slice none 0 0)) := fun X hX => by
    refine BoxN.since (W := wa) ?_ hX
    rw [hwa, ← h01]
    show (w0.heap.push _)[w0.heap.size]? = _
    rw [Array.getElem?_push_size]
  clear h01
  have q00 := lift_cell p00 hsa
  have q01 := lift_cell p01 hsa
  have q02 := lift_cell p02 hsa
  have H' := Lib.hid (H.out.keep hsa.below)
  have Hwa := Lib.hid hwa
  have Hsa := Lib.hid hsa
  have h00 : Since wa wa := since_refl _
  clear hwa hsa p00 p01 p02
  go_enter Try.func41, Try.ntmps41
  go_upto_region 1 with (fail)
  rw [← Hw0.out, ← Hwa.out]
  go_wp2_with fail
  refine (neOwn_any _ _ _ n wa H'.out hn hsz).mono ?_
  rintro e w2 ⟨ue, ui, un, S, rfl, hon, hb2⟩
  obtain ⟨AE, cE, hvE, _⟩ := id hon.read.1
  obtain ⟨AI, cI, rfl, _⟩ := id hon.read.2.1
  obtain ⟨AN, cN, rfl, _⟩ := id hon.read.2.2
  subst hvE
  have hlen : 0 < n.ends.length := (netOk_len hn).1
  obtain ⟨g, hg⟩ : ∃ g, AE = some ⟨g, 0, none⟩ := by
    obtain ⟨S1, S2, S3, ⟨vs, Ss, h1, _⟩, _⟩ := hon
    rcases ownsRow_cases h1 with ⟨h0, h0'⟩ | ⟨g, cc, h0, _⟩
    · omega
    · cases h0; exact ⟨g, rfl⟩
  subst hg
  go_upto_region 2 with (fail)
  obtain ⟨wc, hwc⟩ : ∃ wc, wc = w2.alloc (.cells #[.slice (some ⟨g, 0, none⟩) n.ends.length cE, .slice AI n.ids.length cI, .slice AN n.inputs.length cN] 32) := ⟨_, rfl⟩
  rw [← hwc]
  obtain ⟨ob, hob⟩ : ∃ ob, ob = w2.heap.size := ⟨_, rfl⟩
  rw [← hob]
  have hs2c : Since w2 wc := by rw [hwc]; exact since_alloc _ (since_refl _)
  have hsc : Since wa wc := (Since.trans h00 hb2).after hs2c
  have hbx : BoxN wc ob (.slice (some ⟨g, 0, none⟩) n.ends.length cE) (.slice AI n.ids.length cI) (.slice AN n.inputs.length cN) := by
    rw [hwc, hob]
    show (w2.heap.push _)[w2.heap.size]? = _
    rw [Array.getElem?_push_size]
  have HBx := Lib.hid hbx
  have HC := Lib.hid (hon.keep hs2c.below)
  have HrS := Lib.hid (fun j hj => (hon.range j hj).2)
  have Hob := Lib.hid hob
  have Hs2c := Lib.hid hs2c
  have Hsc := Lib.hid hsc
  have r00 := lift_cell q00 hsc
  have Hc := Lib.hid (H'.out.keep hsc.below)
  have hcc : Since wc wc := since_refl _
  obtain ⟨k1, j1, b, off, c', b1, off1, z1, es1, y1, y2, rfl, rfl, hA, hk1, -, hj1, -, hat1, hz1, hz1', hc1, hc2, hc3⟩ := port_at Hc.out.es hp
  cases hA
  obtain ⟨k2, j2, b', off', c', b2, off2, z2, es2, y3, y4, rfl, rfl, hA, hk2, -, hj2, -, hat2, hz2, hz2', hc4, hc5, hc6⟩ := port_at Hc.out.es hq
  cases hA
  have r1 := have_cell hc1
  have r2 := have_cell hc2
  have r3 := have_cell hc3
  have r4 := have_cell hc4
  have r5 := have_cell hc5
  have r6 := have_cell hc6
  have Hat1 := Lib.hid hat1
  have Hat2 := Lib.hid hat2
  clear hc1 hc2 hc3 hc4 hc5 hc6 hat1 hat2 hwc hob hbx hon hb2 hs2c hsc q00 q01 q02 h00
  refine wp_region_two2 (w0 := wc) 16 12 13 23 31 57 y1 y2 y3 y4 (by kernel_rfl) (by kernel_rfl) rfl (hcc) ⟨_, _, _, rfl⟩ ⟨_, _, _, rfl⟩ ⟨_, _, _, rfl⟩ ⟨_, _, _, rfl⟩ (by decide) (by simp) (by simp) end_zero end_store ?_
  simp only [List.take_succ_cons, List.take_zero]
  refine pflow_val (v := ?_) rfl ?_ ?_; rotate_left; (intro W hW; go_simp; with_reducible rfl)
  simp only [Act.put, List.setIfInBounds_toArray, List.set_cons_succ, List.set_cons_zero]
  refine pflow_val (v := ?_) rfl ?_ ?_; rotate_left; (intro W hW; go_simp; with_reducible rfl)
  simp only [Act.put, List.setIfInBounds_toArray, List.set_cons_succ, List.set_cons_zero]
  refine pflow_val (v := ?_) rfl ?_ ?_; rotate_left; (intro W hW; go_simp; with_reducible rfl)
  simp only [Act.put, List.setIfInBounds_toArray, List.set_cons_succ, List.set_cons_zero]
  refine pflow_val (v := ?_) rfl ?_ ?_; rotate_left; (intro W hW; go_simp; with_reducible rfl)
  simp only [Act.put, List.setIfInBounds_toArray, List.set_cons_succ, List.set_cons_zero]
  refine pflow_val (v := ?_) rfl ?_ ?_; rotate_left; (intro W hW; go_simp; with_reducible rfl)
  simp only [Act.put, List.setIfInBounds_toArray, List.set_cons_succ, List.set_cons_zero]
  refine pflow_val (v := ?_) rfl ?_ ?_; rotate_left; (intro W hW; go_simp; with_reducible rfl)
  simp only [Act.put, List.setIfInBounds_toArray, List.set_cons_succ, List.set_cons_zero]
  refine pflow_val (v := ?_) rfl ?_ ?_; rotate_left; (intro W hW; go_simp; with_reducible rfl)
  simp only [Act.put, List.setIfInBounds_toArray, List.set_cons_succ, List.set_cons_zero]
  refine pflow_val (v := ?_) rfl ?_ ?_; rotate_left; (intro W hW; go_simp; with_reducible rfl)
  simp only [Act.put, List.setIfInBounds_toArray, List.set_cons_succ, List.set_cons_zero]
  refine pflow_val (v := ?_) rfl ?_ ?_; rotate_left; (intro W hW; go_simp; with_reducible rfl)
  simp only [Act.put, List.setIfInBounds_toArray, List.set_cons_succ, List.set_cons_zero]
  refine pflow_val (v := ?_) rfl ?_ ?_; rotate_left; (intro W hW; go_simp; with_reducible rfl)
  simp only [Act.put, List.setIfInBounds_toArray, List.set_cons_succ, List.set_cons_zero]
  refine pflow_val (v := ?_) rfl ?_ ?_; rotate_left; (intro W hW; go_simp; with_reducible rfl)
  simp only [Act.put, List.setIfInBounds_toArray, List.set_cons_succ, List.set_cons_zero]
  refine pflow_val (v := ?_) rfl ?_ ?_; rotate_left; (intro W hW; go_simp; with_reducible rfl)
  simp only [Act.put, List.setIfInBounds_toArray, List.set_cons_succ, List.set_cons_zero]
  refine pflow_val (v := ?_) rfl ?_ ?_; rotate_left; (intro W hW; go_simp; with_reducible rfl)
  simp only [Act.put, List.setIfInBounds_toArray, List.set_cons_succ, List.set_cons_zero]
  refine pflow_val (v := ?_) rfl ?_ ?_; rotate_left; (intro W hW; go_simp; with_reducible rfl)
  simp only [Act.put, List.setIfInBounds_toArray, List.set_cons_succ, List.set_cons_zero]
  refine pflow_val (v := ?_) rfl ?_ ?_; rotate_left; (intro W hW; go_simp; with_reducible rfl)
  simp only [Act.put, List.setIfInBounds_toArray, List.set_cons_succ, List.set_cons_zero]
  refine pflow_val (v := ?_) rfl ?_ ?_; rotate_left; (intro W hW; go_simp; with_reducible rfl)
  simp only [Act.put, List.setIfInBounds_toArray, List.set_cons_succ, List.set_cons_zero]
  refine ⟨rfl, rfl, ?_⟩
  intro b1' b2' W1 hW1 hbl1 hbl2 hE1 hE2
  simp only [Act.put, List.setIfInBounds_toArray, List.set_cons_succ, List.set_cons_zero]
  unfold ptr
  have Hcr : Hid (Cr wa W1 ob b1' b2' g cE n.ends.length (.slice AI n.ids.length cI) (.slice AN n.inputs.length cN) n S (y1, y2) (y3, y4)) :=
    ⟨HC.out.keep hW1.below, rfl, HBx.out.since hW1, hE1, hE2, ⟨fun hj => by have := HrS.out _ hj; have := Hob.out; omega, fun hj => by have := HrS.out _ hj; have := Hs2c.out.below.size; omega, fun hj => by have := HrS.out _ hj; have := Hs2c.out.below.size; omega⟩, Hsc.out.after hW1⟩
  have hbp' : hasPortB n.ends y1 y2 = true := by have := hbp; rw [Hat1.out] at this; exact this
  have hbq' : hasPortB n.ends y3 y4 = true := by have := hbq; rw [Hat2.out] at this; exact this
  clear hbp hbq
  have hbp := hbp'
  have hbq := hbq'
  clear hbp' hbq'
  obtain ⟨k3, j3, rfl, rfl⟩ := port_nat hbp
  obtain ⟨k4, j4, rfl, rfl⟩ := port_nat hbq
  have Hp := Lib.hid hp
  have Hq := Lib.hid hq
  have Hbp := Lib.hid hbp
  have Hbq := Lib.hid hbq
  clear hp hq hbp hbq hE1 hE2 hbl1 hbl2 hW1 r1 r2 r3 r4 r5 r6 r00 hcc
  go_upto_region 3 with (fail)
  have hcr := Hcr.out.drew
  obtain ⟨k, q, gr, cr, l, hk, hq, hkm, hql, hlc, hcm, c1, n1, n2, n3, n4, f0, f1, ⟨z0, c2⟩, ⟨z1', c3⟩, hup⟩ := hcr.port (by first | exact Hp.out | (simp only [putEnd_port]; exact Hp.out))
  obtain rfl : k1 = k := by omega
  obtain rfl : j1 = q := by omega
  clear hk hq
  have hup := hup ((k4 : Int), (j4 : Int))
  have Hup := Lib.hid hup
  clear hup hcr
  replace c1 : W1.cell? _ = _ := c1
  replace c2 : W1.cell? _ = _ := c2
  replace c3 : W1.cell? _ = _ := c3
  replace f0 : W1.frozen? _ = _ := f0
  replace f1 : W1.frozen? _ = _ := f1
  have t0 := have_cell Hcr.out.box.box.cells.1
  have t1 := have_cell c1
  have s0 := have_cell Hcr.out.e1.cells.1
  have s1 := have_cell Hcr.out.e1.cells.2.1
  have s2 := have_cell Hcr.out.e2.cells.1
  have s3 := have_cell Hcr.out.e2.cells.2.1
  have h0 : Since W1 W1 := since_refl _
  refine wp_region_chain0 (w0 := W1) 7 [false, false, false, false, false, false, false] (by kernel_rfl) (by kernel_rfl) (h0) ?_
  simp only [selF, selT, List.take_succ_cons, List.take_zero, List.drop_succ_cons, List.drop_zero]
  refine pflow_val (v := ?_) rfl ?_ ?_; rotate_left; (intro W hW; go_simp; with_reducible rfl)
  simp only [Act.put, List.setIfInBounds_toArray, List.set_cons_succ, List.set_cons_zero]
  refine pflow_val (v := ?_) rfl ?_ ?_; rotate_left; (intro W hW; go_simp; with_reducible rfl)
  simp only [Act.put, List.setIfInBounds_toArray, List.set_cons_succ, List.set_cons_zero]
  refine pflow_val (v := ?_) rfl ?_ ?_; rotate_left; (intro W hW; go_simp; with_reducible rfl)
  simp only [Act.put, List.setIfInBounds_toArray, List.set_cons_succ, List.set_cons_zero]
  refine pflow_val (v := ?_) rfl ?_ ?_; rotate_left; (intro W hW; go_simp; with_reducible rfl)
  simp only [Act.put, List.setIfInBounds_toArray, List.set_cons_succ, List.set_cons_zero]
  refine pflow_val (v := ?_) rfl ?_ ?_; rotate_left; (intro W hW; go_simp; with_reducible rfl)
  simp only [Act.put, List.setIfInBounds_toArray, List.set_cons_succ, List.set_cons_zero]
  refine pflow_val (v := ?_) rfl ?_ ?_; rotate_left; (intro W hW; go_simp; with_reducible rfl)
  simp only [Act.put, List.setIfInBounds_toArray, List.set_cons_succ, List.set_cons_zero]
  refine pflow_val (v := ?_) rfl ?_ ?_; rotate_left; (intro W hW; go_simp; with_reducible rfl)
  simp only [Act.put, List.setIfInBounds_toArray, List.set_cons_succ, List.set_cons_zero]
  simp only [PFlow, TFlow]
  obtain ⟨W, hWd⟩ : ∃ W, W = World.drew W1 := ⟨_, rfl⟩
  rw [← hWd]
  have hW : Since W1 W := by rw [hWd]; exact since_drew (h0)
  go_upto_region 4 with (fail)
  obtain ⟨W2, hWN⟩ : ∃ X, X = World.drew ((W1.setCell ⟨gr, j1 * 2, none⟩ (.int .i64 k4)).setCell ⟨gr, j1 * 2 + 1, none⟩ (.int .i64 j4)) := ⟨_, rfl⟩
  rw [← hWN]
  have Hcr2 := Lib.hid (show Cr wa W2 ob b1' b2' g cE n.ends.length _ _ _ S _ _ from by rw [hWN]; exact Hup.out)
  clear hWN Hcr Hup c1 c2 c3 f0 f1 t0 t1 s0 s1 s2 s3 h0 n1 n2 n3 n4 hkm hql hlc hcm hW hWd W
  have Hcr := Hcr2
  clear Hcr2 z0 z1'
  have hcr := Hcr.out.drew
  obtain ⟨k, q, gr, cr, l, hk, hq, hkm, hql, hlc, hcm, c1, n1, n2, n3, n4, f0, f1, ⟨z0, c2⟩, ⟨z1', c3⟩, hup⟩ := hcr.port (by first | exact Hbq.out | (simp only [putEnd_port]; exact Hbq.out))
  obtain rfl : k4 = k := by omega
  obtain rfl : j4 = q := by omega
  clear hk hq
  have hup := hup ((k1 : Int), (j1 : Int))
  have Hup := Lib.hid hup
  clear hup hcr
  replace c1 : W2.cell? _ = _ := c1
  replace c2 : W2.cell? _ = _ := c2
  replace c3 : W2.cell? _ = _ := c3
  replace f0 : W2.frozen? _ = _ := f0
  replace f1 : W2.frozen? _ = _ := f1
  have t0 := have_cell Hcr.out.box.box.cells.1
  have t1 := have_cell c1
  have s0 := have_cell Hcr.out.e1.cells.1
  have s1 := have_cell Hcr.out.e1.cells.2.1
  have s2 := have_cell Hcr.out.e2.cells.1
  have s3 := have_cell Hcr.out.e2.cells.2.1
  have h0 : Since W2 W2 := since_refl _
  refine wp_region_chain0 (w0 := W2) 11 [false, false, false, false, false, false, false, false, false, false, false] (by kernel_rfl) (by kernel_rfl) (h0) ?_
  simp only [selF, selT, List.take_succ_cons, List.take_zero, List.drop_succ_cons, List.drop_zero]
  refine pflow_val (v := ?_) rfl ?_ ?_; rotate_left; (intro W hW; go_simp; with_reducible rfl)
  simp only [Act.put, List.setIfInBounds_toArray, List.set_cons_succ, List.set_cons_zero]
  refine pflow_val (v := ?_) rfl ?_ ?_; rotate_left; (intro W hW; go_simp; with_reducible rfl)
  simp only [Act.put, List.setIfInBounds_toArray, List.set_cons_succ, List.set_cons_zero]
  refine pflow_val (v := ?_) rfl ?_ ?_; rotate_left; (intro W hW; go_simp; with_reducible rfl)
  simp only [Act.put, List.setIfInBounds_toArray, List.set_cons_succ, List.set_cons_zero]
  refine pflow_val (v := ?_) rfl ?_ ?_; rotate_left; (intro W hW; go_simp; with_reducible rfl)
  simp only [Act.put, List.setIfInBounds_toArray, List.set_cons_succ, List.set_cons_zero]
  refine pflow_val (v := ?_) rfl ?_ ?_; rotate_left; (intro W hW; go_simp; with_reducible rfl)
  simp only [Act.put, List.setIfInBounds_toArray, List.set_cons_succ, List.set_cons_zero]
  refine pflow_val (v := ?_) rfl ?_ ?_; rotate_left; (intro W hW; go_simp; with_reducible rfl)
  simp only [Act.put, List.setIfInBounds_toArray, List.set_cons_succ, List.set_cons_zero]
  refine pflow_val (v := ?_) rfl ?_ ?_; rotate_left; (intro W hW; go_simp; with_reducible rfl)
  simp only [Act.put, List.setIfInBounds_toArray, List.set_cons_succ, List.set_cons_zero]
  refine pflow_val (v := ?_) rfl ?_ ?_; rotate_left; (intro W hW; go_simp; with_reducible rfl)
  simp only [Act.put, List.setIfInBounds_toArray, List.set_cons_succ, List.set_cons_zero]
  refine pflow_val (v := ?_) rfl ?_ ?_; rotate_left; (intro W hW; go_simp; with_reducible rfl)
  simp only [Act.put, List.setIfInBounds_toArray, List.set_cons_succ, List.set_cons_zero]
  refine pflow_val (v := ?_) rfl ?_ ?_; rotate_left; (intro W hW; go_simp; with_reducible rfl)
  simp only [Act.put, List.setIfInBounds_toArray, List.set_cons_succ, List.set_cons_zero]
  refine pflow_val (v := ?_) rfl ?_ ?_; rotate_left; (intro W hW; go_simp; with_reducible rfl)
  simp only [Act.put, List.setIfInBounds_toArray, List.set_cons_succ, List.set_cons_zero]
  simp only [PFlow, TFlow]
  obtain ⟨W, hWd⟩ : ∃ W, W = World.drew W2 := ⟨_, rfl⟩
  rw [← hWd]
  have hW : Since W2 W := by rw [hWd]; exact since_drew (h0)
  go_upto_region 5 with (fail)
  obtain ⟨W3, hWN⟩ : ∃ X, X = World.drew ((W2.setCell ⟨gr, j4 * 2, none⟩ (.int .i64 k1)).setCell ⟨gr, j4 * 2 + 1, none⟩ (.int .i64 j1)) := ⟨_, rfl⟩
  rw [← hWN]
  have Hcr2 := Lib.hid (show Cr wa W3 ob b1' b2' g cE n.ends.length _ _ _ S _ _ from by rw [hWN]; exact Hup.out)
  clear hWN Hcr Hup c1 c2 c3 f0 f1 t0 t1 s0 s1 s2 s3 h0 n1 n2 n3 n4 hkm hql hlc hcm hW hWd W
  have Hcr := Hcr2
  clear Hcr2 z0 z1'
  have hcr := Hcr.out.drew
  obtain ⟨k, q, gr, cr, l, hk, hq, hkm, hql, hlc, hcm, c1, n1, n2, n3, n4, f0, f1, ⟨z0, c2⟩, ⟨z1', c3⟩, hup⟩ := hcr.port (by first | exact Hq.out | (simp only [putEnd_port]; exact Hq.out))
  obtain rfl : k2 = k := by omega
  obtain rfl : j2 = q := by omega
  clear hk hq
  have hup := hup ((k3 : Int), (j3 : Int))
  have Hup := Lib.hid hup
  clear hup hcr
  replace c1 : W3.cell? _ = _ := c1
  replace c2 : W3.cell? _ = _ := c2
  replace c3 : W3.cell? _ = _ := c3
  replace f0 : W3.frozen? _ = _ := f0
  replace f1 : W3.frozen? _ = _ := f1
  have t0 := have_cell Hcr.out.box.box.cells.1
  have t1 := have_cell c1
  have s0 := have_cell Hcr.out.e1.cells.1
  have s1 := have_cell Hcr.out.e1.cells.2.1
  have s2 := have_cell Hcr.out.e2.cells.1
  have s3 := have_cell Hcr.out.e2.cells.2.1
  have h0 : Since W3 W3 := since_refl _
  refine wp_region_chain0 (w0 := W3) 7 [false, false, false, false, false, false, false] (by kernel_rfl) (by kernel_rfl) (h0) ?_
  simp only [selF, selT, List.take_succ_cons, List.take_zero, List.drop_succ_cons, List.drop_zero]
  refine pflow_val (v := ?_) rfl ?_ ?_; rotate_left; (intro W hW; go_simp; with_reducible rfl)
  simp only [Act.put, List.setIfInBounds_toArray, List.set_cons_succ, List.set_cons_zero]
  refine pflow_val (v := ?_) rfl ?_ ?_; rotate_left; (intro W hW; go_simp; with_reducible rfl)
  simp only [Act.put, List.setIfInBounds_toArray, List.set_cons_succ, List.set_cons_zero]
  refine pflow_val (v := ?_) rfl ?_ ?_; rotate_left; (intro W hW; go_simp; with_reducible rfl)
  simp only [Act.put, List.setIfInBounds_toArray, List.set_cons_succ, List.set_cons_zero]
  refine pflow_val (v := ?_) rfl ?_ ?_; rotate_left; (intro W hW; go_simp; with_reducible rfl)
  simp only [Act.put, List.setIfInBounds_toArray, List.set_cons_succ, List.set_cons_zero]
  refine pflow_val (v := ?_) rfl ?_ ?_; rotate_left; (intro W hW; go_simp; with_reducible rfl)
  simp only [Act.put, List.setIfInBounds_toArray, List.set_cons_succ, List.set_cons_zero]
  refine pflow_val (v := ?_) rfl ?_ ?_; rotate_left; (intro W hW; go_simp; with_reducible rfl)
  simp only [Act.put, List.setIfInBounds_toArray, List.set_cons_succ, List.set_cons_zero]
  refine pflow_val (v := ?_) rfl ?_ ?_; rotate_left; (intro W hW; go_simp; with_reducible rfl)
  simp only [Act.put, List.setIfInBounds_toArray, List.set_cons_succ, List.set_cons_zero]
  simp only [PFlow, TFlow]
  obtain ⟨W, hWd⟩ : ∃ W, W = World.drew W3 := ⟨_, rfl⟩
  rw [← hWd]
  have hW : Since W3 W := by rw [hWd]; exact since_drew (h0)
  go_upto_region 6 with (fail)
  obtain ⟨W4, hWN⟩ : ∃ X, X = World.drew ((W3.setCell ⟨gr, j2 * 2, none⟩ (.int .i64 k3)).setCell ⟨gr, j2 * 2 + 1, none⟩ (.int .i64 j3)) := ⟨_, rfl⟩
  rw [← hWN]
  have Hcr2 := Lib.hid (show Cr wa W4 ob b1' b2' g cE n.ends.length _ _ _ S _ _ from by rw [hWN]; exact Hup.out)
  clear hWN Hcr Hup c1 c2 c3 f0 f1 t0 t1 s0 s1 s2 s3 h0 n1 n2 n3 n4 hkm hql hlc hcm hW hWd W
  have Hcr := Hcr2
  clear Hcr2 z0 z1'
  have hcr := Hcr.out.drew
  obtain ⟨k, q, gr, cr, l, hk, hq, hkm, hql, hlc, hcm, c1, n1, n2, n3, n4, f0, f1, ⟨z0, c2⟩, ⟨z1', c3⟩, hup⟩ := hcr.port (by first | exact Hbp.out | (simp only [putEnd_port]; exact Hbp.out))
  obtain rfl : k3 = k := by omega
  obtain rfl : j3 = q := by omega
  clear hk hq
  have hup := hup ((k2 : Int), (j2 : Int))
  have Hup := Lib.hid hup
  clear hup hcr
  replace c1 : W4.cell? _ = _ := c1
  replace c2 : W4.cell? _ = _ := c2
  replace c3 : W4.cell? _ = _ := c3
  replace f0 : W4.frozen? _ = _ := f0
  replace f1 : W4.frozen? _ = _ := f1
  have t0 := have_cell Hcr.out.box.box.cells.1
  have t1 := have_cell c1
  have s0 := have_cell Hcr.out.e1.cells.1
  have s1 := have_cell Hcr.out.e1.cells.2.1
  have s2 := have_cell Hcr.out.e2.cells.1
  have s3 := have_cell Hcr.out.e2.cells.2.1
  have h0 : Since W4 W4 := since_refl _
  refine wp_region_chain0 (w0 := W4) 11 [false, false, false, false, false, false, false, false, false, false, false] (by kernel_rfl) (by kernel_rfl) (h0) ?_
  simp only [selF, selT, List.take_succ_cons, List.take_zero, List.drop_succ_cons, List.drop_zero]
  refine pflow_val (v := ?_) rfl ?_ ?_; rotate_left; (intro W hW; go_simp; with_reducible rfl)
  simp only [Act.put, List.setIfInBounds_toArray, List.set_cons_succ, List.set_cons_zero]
  refine pflow_val (v := ?_) rfl ?_ ?_; rotate_left; (intro W hW; go_simp; with_reducible rfl)
  simp only [Act.put, List.setIfInBounds_toArray, List.set_cons_succ, List.set_cons_zero]
  refine pflow_val (v := ?_) rfl ?_ ?_; rotate_left; (intro W hW; go_simp; with_reducible rfl)
  simp only [Act.put, List.setIfInBounds_toArray, List.set_cons_succ, List.set_cons_zero]
  refine pflow_val (v := ?_) rfl ?_ ?_; rotate_left; (intro W hW; go_simp; with_reducible rfl)
  simp only [Act.put, List.setIfInBounds_toArray, List.set_cons_succ, List.set_cons_zero]
  refine pflow_val (v := ?_) rfl ?_ ?_; rotate_left; (intro W hW; go_simp; with_reducible rfl)
  simp only [Act.put, List.setIfInBounds_toArray, List.set_cons_succ, List.set_cons_zero]
  refine pflow_val (v := ?_) rfl ?_ ?_; rotate_left; (intro W hW; go_simp; with_reducible rfl)
  simp only [Act.put, List.setIfInBounds_toArray, List.set_cons_succ, List.set_cons_zero]
  refine pflow_val (v := ?_) rfl ?_ ?_; rotate_left; (intro W hW; go_simp; with_reducible rfl)
  simp only [Act.put, List.setIfInBounds_toArray, List.set_cons_succ, List.set_cons_zero]
  refine pflow_val (v := ?_) rfl ?_ ?_; rotate_left; (intro W hW; go_simp; with_reducible rfl)
  simp only [Act.put, List.setIfInBounds_toArray, List.set_cons_succ, List.set_cons_zero]
  refine pflow_val (v := ?_) rfl ?_ ?_; rotate_left; (intro W hW; go_simp; with_reducible rfl)
  simp only [Act.put, List.setIfInBounds_toArray, List.set_cons_succ, List.set_cons_zero]
  refine pflow_val (v := ?_) rfl ?_ ?_; rotate_left; (intro W hW; go_simp; with_reducible rfl)
  simp only [Act.put, List.setIfInBounds_toArray, List.set_cons_succ, List.set_cons_zero]
  refine pflow_val (v := ?_) rfl ?_ ?_; rotate_left; (intro W hW; go_simp; with_reducible rfl)
  simp only [Act.put, List.setIfInBounds_toArray, List.set_cons_succ, List.set_cons_zero]
  simp only [PFlow, TFlow]
  obtain ⟨W, hWd⟩ : ∃ W, W = World.drew W4 := ⟨_, rfl⟩
  rw [← hWd]
  have hW : Since W4 W := by rw [hWd]; exact since_drew (h0)
  go_upto_region 7 with (fail)
  obtain ⟨W5, hWN⟩ : ∃ X, X = World.drew ((W4.setCell ⟨gr, j3 * 2, none⟩ (.int .i64 k2)).setCell ⟨gr, j3 * 2 + 1, none⟩ (.int .i64 j2)) := ⟨_, rfl⟩
  rw [← hWN]
  have Hcr2 := Lib.hid (show Cr wa W5 ob b1' b2' g cE n.ends.length _ _ _ S _ _ from by rw [hWN]; exact Hup.out)
  clear hWN Hcr Hup c1 c2 c3 f0 f1 t0 t1 s0 s1 s2 s3 h0 n1 n2 n3 n4 hkm hql hlc hcm hW hWd W
  have Hcr := Hcr2
  clear Hcr2 z0 z1'
  have HR := HRb.out W5 Hcr.out.since
  obtain ⟨c0, c1, c2', _, _, _⟩ := Hcr.out.box.box.cells
  obtain ⟨d0, d1, d2, f0, f1, f2⟩ := HR.box.cells
  have HR' := Lib.hid HR
  clear HR
  go_wp2
  refine bodyPost_ret (v := .agg #[.slice (some ⟨g, 0, none⟩) n.ends.length cE, .slice AI n.ids.length cI, .slice AN n.inputs.length cN]) (by simp [results, Try.results41, go_sem, *]) rfl ?_
  have hx := Hcr.out.own
  refine ⟨_, _, _, S, rfl, ?_, ?_⟩
  · have e : crossE n (k1 : Int) (j1 : Int) (k2 : Int) (j2 : Int) = putEnd (putEnd (putEnd (putEnd n.ends ((k1 : Int), (j1 : Int)) ((k4 : Int), (j4 : Int))) ((k4 : Int), (j4 : Int)) ((k1 : Int), (j1 : Int))) ((k2 : Int), (j2 : Int)) ((k3 : Int), (j3 : Int))) ((k3 : Int), (j3 : Int)) ((k2 : Int), (j2 : Int)) := by
      unfold crossE
      rw [Hat1.out, Hat2.out]
    rw [e]
    refine (hx.stable (fun j hj => ?_)).mono (Nat.le_trans Hb0.out.size Hsa.out.below.size)
    have hj1 := (hx.range j hj).1
    have hj2 := Hza.out
    rw [Below.heap_setCell _ _ _ j (by simp; omega), Below.heap_setCell _ _ _ j (by simp; omega), Below.heap_setCell _ _ _ j (by simp; omega)]
  · exact (((Below.trans Hb0.out ((Hsa.out.after Hcr.out.since).below.mono Hb0.out.size)).setCell (by simp) _).setCell (by simp) _).setCell (by simp) _
end Go.Proofs.Ythgbobikbdklhaa
namespace Go.Proofs.Ythgbobikbdklhaa
open Go.RowKit
end Go.Proofs.Ythgbobikbdklhaa
namespace Go.Proofs.Ythgbobikbdklhaa
open Go.RowKit
end Go.Proofs.Ythgbobikbdklhaa
namespace Go.Proofs.Ythgbobikbdklhaa
open Go.RowKit
end Go.Proofs.Ythgbobikbdklhaa
namespace Go.Proofs.Ythgbobikbdklhaa
open Go.RowKit
/-- a new network came back, and a truth value -/
def NewNetB (w : World) (n : Net) (b : Bool) (e : Ending) (w' : World) : Prop := ∃ ue ui un S, e = .returned (.tuple #[.agg #[ue, ui, un], .bool b]) ∧ OwnNet w' w.heap.size ue ui un n S ∧ Below w.heap.size w w'
def crossEOk (n : Net) (v i x j : Int) : Bool := netOk n && hasPortB n.ends v i && hasPortB n.ends x j && mayB n.ends (v, i) (x, j)
def fnExactCrossEdges_d (n : Net) (v i x j : Int) : Net := if crossEOk n v i x j then { n with ends := crossE n v i x j } else ⟨[], [], []⟩
def fnExactCrossEdges_r1 (n : Net) (v i x j : Int) : Bool := crossEOk n v i x j
theorem cg1 {n : Net} {v i x j : Int} (h : (!nePortB n v i || !nePortB n x j) = false) : hasPortB n.ends v i = true ∧ hasPortB n.ends x j = true := by
  simp only [nePortB, Bool.or_eq_false_iff, Bool.not_eq_false', Bool.and_eq_true] at h
  exact ⟨h.1.2, h.2.2⟩
theorem ce_ok {n : Net} {v i x j : Int} (h : crossEOk n v i x j = true) : netOk n = true ∧ hasPortB n.ends v i = true ∧ hasPortB n.ends x j = true ∧ mayB n.ends (v, i) (x, j) = true := by
  unfold crossEOk at h
  simp only [Bool.and_eq_true] at h
  exact ⟨h.1.1.1, h.1.1.2, h.1.2, h.2⟩
set_option maxRecDepth 100000 in
set_option maxHeartbeats 8000000 in
theorem fnExactCrossEdges_spec (ve vi vn : Value) (n : Net) (v i x j : Int) (w : World) (h : NetIn w ve vi vn n) (_ : -9223372036854775808 ≤ v ∧ v ≤ 9223372036854775807) (_ : -9223372036854775808 ≤ i ∧ i ≤ 9223372036854775807) (_ : -9223372036854775808 ≤ x ∧ x ≤ 9223372036854775807) (_ : -9223372036854775808 ≤ j ∧ j ≤ 9223372036854775807) (hsz : szNet n ≤ 1048576) :
    Calls Try.prog 23 #[.agg #[ve, vi, vn], .int .i64 v, .int .i64 i, .int .i64 x, .int .i64 j] w (NewNetB w (fnExactCrossEdges_d n v i x j) (fnExactCrossEdges_r1 n v i x j)) := by
  have Hsz := Lib.hid hsz
  clear hsz
  obtain ⟨w0, hw0⟩ : ∃ w0, w0 = (w).alloc (.cells #[ve, vi, vn] 32) := ⟨_, rfl⟩
  have hb0 : Below w.heap.size w w0 := by rw [hw0]; exact ((Below.refl _ _).alloc (by simp) _)
  have H := Lib.hid (h.keep hb0)
  obtain ⟨h1, h2, h3⟩ := h.keep hb0
  obtain ⟨A, c, rfl, hlc, hm, hA⟩ := h1
  obtain ⟨A2, c2, rfl, _, hm2, _⟩ := h2
  obtain ⟨A3, c3, rfl, _, hm3, _⟩ := h3
  unfold maxLen at hm hm2 hm3
  have p00 : ∀ W, Since w0 W → W.cell? ⟨w.heap.size, 0, none⟩ = some (.slice A n.ends.length c) := have_cell (by rw [hw0]; simp)
  have p01 : ∀ W, Since w0 W → W.cell? ⟨w.heap.size, 1, none⟩ = some (.slice A2 n.ids.length c2) := have_cell (by rw [hw0]; simp)
  have p02 : ∀ W, Since w0 W → W.cell? ⟨w.heap.size, 2, none⟩ = some (.slice A3 n.inputs.length c3) := have_cell (by rw [hw0]; simp)
  have Hb0 := Lib.hid hb0
  have Hw0 := Lib.hid hw0
  have HA := Lib.hid hA
  clear hA h
  clear hb0 hw0
  obtain ⟨wa, hwa⟩ : ∃ wa, wa = w0.alloc (.cells #[.slice none 0 0, .slice none 0 0, .slice none 0 0] 32) := ⟨_, rfl⟩
  have hsa : Since w0 wa := by rw [hwa]; exact since_alloc _ (since_refl _)
  have h01 : w0.heap.size = w.heap.size + 1 := by rw [Hw0.out]; simp
  have Hza : Hid (wa.heap.size = w.heap.size + 1 + 1) := by show _ = _; rw [hwa, ← h01]; simp
  have HRb : Hid (∀ X, Since wa X → BoxN X (w.heap.size + 1) (.slice none 0 0) (.slice none 0 0) (.slice none 0 0)) := fun X hX => by
    refine BoxN.since (W := wa) ?_ hX
    rw [hwa, ← h01]
    show (w0.heap.push _)[w0.heap.size]? = _
    rw [Array.getElem?_push_size]
  clear h01
  have q00 := lift_cell p00 hsa
  have q01 := lift_cell p01 hsa
  have q02 := lift_cell p02 hsa
  have H' := Lib.hid (H.out.keep hsa.below)
  have Hwa := Lib.hid hwa
  have Hsa := Lib.hid hsa
  have h00 : Since wa wa := since_refl _
  clear hwa hsa p00 p01 p02
  go_enter Try.func23, Try.ntmps23
  go_upto_region 1 with (fail)
  rw [← Hw0.out, ← Hwa.out]
  refine wp_region_flow0 21 (Since wa) (h00) ?_
  simp only [List.take_succ_cons, List.take_zero, List.drop_succ_cons, List.drop_zero]
  refine flow_val (v := ?_) rfl ?_ ?_; rotate_left; (intro W hW; go_simp; with_reducible rfl)
  simp only [Act.put, List.setIfInBounds_toArray, List.set_cons_succ, List.set_cons_zero]
  refine flow_val (v := ?_) rfl ?_ ?_; rotate_left; (intro W hW; go_simp; with_reducible rfl)
  simp only [Act.put, List.setIfInBounds_toArray, List.set_cons_succ, List.set_cons_zero]
  refine flow_val (v := ?_) rfl ?_ ?_; rotate_left; (intro W hW; go_simp; with_reducible rfl)
  simp only [Act.put, List.setIfInBounds_toArray, List.set_cons_succ, List.set_cons_zero]
  refine flow_op ?_ rfl ?_ ?_; rotate_left; (intro W hW; unfold Gives; go_simp; (with_reducible refine (nePort_b _ _ _ n _ _ W (H'.out.keep hW.below)).mono ?_); rintro e W' ⟨rfl, hb3⟩; first | (refine ⟨?_, Since.trans hW hb3⟩; with_reducible rfl) | (subst hb3; refine ⟨?_, hW⟩; with_reducible rfl))
  simp only [Act.put, List.setIfInBounds_toArray, List.set_cons_succ, List.set_cons_zero]
  refine flow_val (v := ?_) rfl ?_ ?_; rotate_left; (intro W hW; go_simp; with_reducible rfl)
  simp only [Act.put, List.setIfInBounds_toArray, List.set_cons_succ, List.set_cons_zero]
  refine flow_val (v := ?_) rfl ?_ ?_; rotate_left; (intro W hW; go_simp; with_reducible rfl)
  simp only [Act.put, List.setIfInBounds_toArray, List.set_cons_succ, List.set_cons_zero]
  refine flow_gval (v := ?_) rfl rfl ?_ ?_; rotate_left; (intro hb; intro W hW; go_simp; with_reducible rfl)
  simp only [Act.put, List.setIfInBounds_toArray, List.set_cons_succ, List.set_cons_zero]
  refine flow_gval (v := ?_) rfl rfl ?_ ?_; rotate_left; (intro hb; intro W hW; go_simp; with_reducible rfl)
  simp only [Act.put, List.setIfInBounds_toArray, List.set_cons_succ, List.set_cons_zero]
  refine flow_gval (v := ?_) rfl rfl ?_ ?_; rotate_left; (intro hb; intro W hW; go_simp; with_reducible rfl)
  simp only [Act.put, List.setIfInBounds_toArray, List.set_cons_succ, List.set_cons_zero]
  refine flow_gop (v := ?_) rfl rfl ?_ ?_; rotate_left; (intro hb; intro W hW; unfold Gives; go_simp; (with_reducible refine (nePort_b _ _ _ n _ _ W (H'.out.keep hW.below)).mono ?_); rintro e W' ⟨rfl, hb3⟩; first | (refine ⟨?_, Since.trans hW hb3⟩; with_reducible rfl) | (subst hb3; refine ⟨?_, hW⟩; with_reducible rfl))
  simp only [Act.put, List.setIfInBounds_toArray, List.set_cons_succ, List.set_cons_zero]
  refine flow_gval (v := ?_) rfl rfl ?_ ?_; rotate_left; (intro hb; intro W hW; go_simp; with_reducible rfl)
  simp only [Act.put, List.setIfInBounds_toArray, List.set_cons_succ, List.set_cons_zero]
  first | refine flow_or rfl rfl ?_ | (refine flow_val (v := ?_) rfl ?_ ?_; rotate_left; (intro W hW; go_simp; with_reducible rfl))
  simp only [Act.put, List.setIfInBounds_toArray, List.set_cons_succ, List.set_cons_zero]
  refine flow_val (v := ?_) rfl ?_ ?_; rotate_left; (intro W hW; go_simp; with_reducible rfl)
  simp only [Act.put, List.setIfInBounds_toArray, List.set_cons_succ, List.set_cons_zero]
  refine flow_gval (v := ?_) rfl rfl ?_ ?_; rotate_left; (intro hb; intro W hW; go_simp; with_reducible rfl)
  simp only [Act.put, List.setIfInBounds_toArray, List.set_cons_succ, List.set_cons_zero]
  refine flow_gval (v := ?_) rfl rfl ?_ ?_; rotate_left; (intro hb; intro W hW; go_simp; with_reducible rfl)
  simp only [Act.put, List.setIfInBounds_toArray, List.set_cons_succ, List.set_cons_zero]
  refine flow_gval (v := ?_) rfl rfl ?_ ?_; rotate_left; (intro hb; intro W hW; go_simp; with_reducible rfl)
  simp only [Act.put, List.setIfInBounds_toArray, List.set_cons_succ, List.set_cons_zero]
  refine flow_gval (v := ?_) rfl rfl ?_ ?_; rotate_left; (intro hb; intro W hW; go_simp; with_reducible rfl)
  simp only [Act.put, List.setIfInBounds_toArray, List.set_cons_succ, List.set_cons_zero]
  refine flow_gval (v := ?_) rfl rfl ?_ ?_; rotate_left; (intro hb; intro W hW; go_simp; with_reducible rfl)
  simp only [Act.put, List.setIfInBounds_toArray, List.set_cons_succ, List.set_cons_zero]
  refine flow_gop (v := ?_) rfl rfl ?_ ?_; rotate_left; (intro hb; intro W hW; unfold Gives; go_simp; (with_reducible refine (atMay_any _ _ _ n v i x j W (H'.out.keep hW.below) (cg1 hb).1 (cg1 hb).2).mono ?_); rintro e W' ⟨rfl, hb3⟩; first | (refine ⟨?_, Since.trans hW hb3⟩; with_reducible rfl) | (subst hb3; refine ⟨?_, hW⟩; with_reducible rfl))
  simp only [Act.put, List.setIfInBounds_toArray, List.set_cons_succ, List.set_cons_zero]
  refine flow_gval (v := ?_) rfl rfl ?_ ?_; rotate_left; (intro hb; intro W hW; go_simp; with_reducible rfl)
  simp only [Act.put, List.setIfInBounds_toArray, List.set_cons_succ, List.set_cons_zero]
  first | refine flow_or rfl rfl ?_ | (refine flow_val (v := ?_) rfl ?_ ?_; rotate_left; (intro W hW; go_simp; with_reducible rfl))
  simp only [Act.put, List.setIfInBounds_toArray, List.set_cons_succ, List.set_cons_zero]
  intro W hW
  cases hg : (!nePortB n v i || !nePortB n x j || !mayB n.ends (v, i) (x, j))
  · have hok : crossEOk n v i x j = true := by
      simp only [nePortB, Bool.or_eq_false_iff, Bool.not_eq_false', Bool.and_eq_true] at hg
      simp [crossEOk, hg]
    have Hok := Lib.hid hok
    have HW := Lib.hid hW
    clear hok
    go_wp2_with fail
    refine (atCross_any _ _ _ n v i x j W (H'.out.keep HW.out.below) (ce_ok Hok.out).1 Hsz.out (ce_ok Hok.out).2.1 (ce_ok Hok.out).2.2.1).mono ?_
    rintro e w2 ⟨ue, ui, un, S, rfl, hon, hb2⟩
    obtain ⟨AE, cE, rfl, _⟩ := id hon.read.1
    obtain ⟨AI, cI, rfl, _⟩ := id hon.read.2.1
    obtain ⟨AN, cN, rfl, _⟩ := id hon.read.2.2
    have HS2 := Lib.hid (HW.out.trans hb2)
    have HO := Lib.hid hon
    obtain ⟨d0, d1, d2, f0, f1, f2⟩ := (HRb.out w2 HS2.out).box.cells
    obtain ⟨l1, hl1⟩ : ∃ l, l = ({ n with ends := crossE n v i x j } : Net).ends.length := ⟨_, rfl⟩
    simp only [← hl1]
    have Hl1 := Lib.hid hl1
    clear hb2 hon hW hg h00 q00 q01 q02 hl1
    go_wp2
    refine bodyPost_ret (v := .tuple #[.agg #[.slice AE l1 cE, .slice AI n.ids.length cI, .slice AN n.inputs.length cN], .bool true]) (by simp [results, Try.results23, go_sem, *]) rfl ?_
    refine ⟨_, _, _, S, by unfold fnExactCrossEdges_r1; rw [Hok.out], ?_, ?_⟩
    · unfold fnExactCrossEdges_d
      rw [if_pos Hok.out, Hl1.out]
      have hx := HO.out
      refine (hx.stable (fun j hj => ?_)).mono (Nat.le_trans (Nat.le_trans Hb0.out.size Hsa.out.below.size) HW.out.below.size)
      have hj1 := (hx.range j hj).1
      have hj2 := Hza.out
      have hj3 := HW.out.below.size
      rw [Below.heap_setCell _ _ _ j (by simp; omega), Below.heap_setCell _ _ _ j (by simp; omega), Below.heap_setCell _ _ _ j (by simp; omega)]
    · exact (((Below.trans Hb0.out ((Hsa.out.after HS2.out).below.mono Hb0.out.size)).setCell (by simp) _).setCell (by simp) _).setCell (by simp) _
  · have hok : crossEOk n v i x j = false := by
      cases h : crossEOk n v i x j with
      | false => rfl
      | true =>
        obtain ⟨a1, a2, a3, a4⟩ := ce_ok h
        rw [nePortB, nePortB, a1, a2, a3, a4] at hg
        simp at hg
    have Hok := Lib.hid hok
    have HS2 := Lib.hid hW
    obtain ⟨d0, d1, d2, f0, f1, f2⟩ := (HRb.out W HS2.out).box.cells
    clear hok hg hW h00 q00 q01 q02
    go_wp2
    refine bodyPost_ret (v := .tuple #[.agg #[.slice none 0 0, .slice none 0 0, .slice none 0 0], .bool false]) (by simp [results, Try.results23, go_sem, *]) rfl ?_
    refine ⟨_, _, _, [], by unfold fnExactCrossEdges_r1; rw [Hok.out], ?_, ?_⟩
    · unfold fnExactCrossEdges_d
      rw [if_neg (by rw [Hok.out]; simp)]
      exact ownNet_nil _ _
    · exact (((Below.trans Hb0.out ((Hsa.out.after HS2.out).below.mono Hb0.out.size)).setCell (by simp) _).setCell (by simp) _).setCell (by simp) _
end Go.Proofs.Ythgbobikbdklhaa
namespace Go.Proofs.Ythgbobikbdklhaa
open Go Go.RowKit
/-! A region that draws its order: reads whose values are known, and one store among them that changes none of them; a tail of one order. -/
section
variable {P : Program} {ops : Array Oper}
theorem wp_region_ls {Q : Exit → Act → World → Prop} {rid : Nat} {a : Act} {w : World} (k s : Nat) (vals : Nat → Value) (G0 G1 : World → Prop) (hm : P.follows .mixedOrders = true) (hf : flowB ops k = true) (hkn : decide (k ≤ ops.size) = true)
    (h0 : G0 w.drew)
    (hstep : ∀ i o, i < k → i ≠ s → ops[i]? = some o → ∀ W, G0 W ∨ G1 W → Region.wanted o (yielded ops (putAll ops (List.range k) vals a).tmps) = true ∧ (execOp (putAll ops (List.range k) vals a).eval o).run P W = .ok (.value (vals i)) W)
    (hstore : ∀ o, ops[s]? = some o → o.dst = none ∧ ∀ W, G0 W → Region.wanted o (yielded ops (putAll ops (List.range k) vals a).tmps) = true ∧ ∃ W', (execOp (putAll ops (List.range k) vals a).eval o).run P W = .ok .skip W' ∧ G1 W')
    (hsk : s < k) (hend : ∀ W, G1 W → wpList P ops Q (ops.toList.drop k) (putAll ops (List.range k) vals a) W) : (Code.region rid ops true).wp P Q a w := by
  have hok := flow_ok hf
  have hkn := of_decide_eq_true hkn
  have frame : FrameIs a ops vals (fun j => j < k) (putAll ops (List.range k) vals a) := by
    have := frame_putAll (a := a) hok.dsts hkn vals (List.range k) (fun _ => False) a (fun _ h => h.elim) (fun j hj => ⟨List.mem_range.1 hj, id⟩) List.nodup_range (FrameIs.start a vals)
    exact this.same (fun j => by simp)
  let J : (Nat → Prop) → Act → World → Prop := fun D a' W =>
    ((¬ D s → G0 W) ∧ (D s → G1 W) ∧ (∀ j, D j → j < k) ∧ FrameIs a ops vals D a') ∨
    (∃ m, k ≤ m ∧ m ≤ ops.size ∧ (∀ j, j < ops.size → (D j ↔ j < m)) ∧ wpList P ops Q (ops.toList.drop m) a' W)
  have full : ∀ D a' W, J D a' W → (∀ j, j < k → D j) → ∃ m, k ≤ m ∧ m ≤ ops.size ∧ (∀ j, j < ops.size → (D j ↔ j < m)) ∧ wpList P ops Q (ops.toList.drop m) a' W := by
    intro D a' W hJ hD
    rcases hJ with ⟨-, h1, hDk, hfr⟩ | hJ
    · have e : a' = putAll ops (List.range k) vals a := hfr.ext frame (fun j _ => ⟨hDk j, hD j⟩)
      subst e
      exact ⟨k, Nat.le_refl _, hkn, fun j _ => ⟨hDk j, hD j⟩, hend W (h1 (hD s hsk))⟩
    · exact hJ
  refine wp_region_inv2 hm hok.back J (.inl ⟨fun _ => h0, fun h => h.elim, fun j hj => hj.elim, FrameIs.start a _⟩) ?_ ?_
  · intro D a' W i o hJ ho hDi hdep hcl
    have hin : i < ops.size := (Array.getElem?_eq_some_iff.1 ho).1
    by_cases hik : i < k
    · rcases hJ with ⟨hg0, hg1, hDk, hfr⟩ | ⟨m, h1, h2, h3, _⟩
      rotate_left
      · exact absurd ((h3 i hin).2 (by omega)) hDi
      obtain ⟨he, hw'⟩ := agree_exec (ops := ops) (a' := a') (A := putAll ops (List.range k) vals a) (fun t ht => hfr.agree frame t (fun j oj hj hoj hd => by
        have hjk : j < k := hj.elim (fun h => hDk j h) id
        exact ⟨hdep j (hok.looks i o hik ho t ht j oj hjk hoj hd), hjk⟩)) (fun cs b => hok.nosel i o cs b ho)
      have dist : ∀ j oj d, D j → ops[j]? = some oj → o.dst = some d → oj.dst ≠ some d := fun j oj d hj hoj hd hd2 => by
        have := hok.dsts i o hik ho j oj (hDk j hj) hoj d hd hd2
        subst this
        exact hDi hj
      by_cases his : i = s
      · subst his
        obtain ⟨hdn, hst⟩ := hstore o ho
        obtain ⟨hw, W', hrun, hG⟩ := hst W (hg0 hDi)
        rw [if_pos (hw'.trans hw)]
        refine .inl ?_
        unfold Oper.wp
        rw [he, hrun]
        refine .inl ⟨fun h => (h (.inr rfl)).elim, fun _ => hG, fun j hj => hj.elim (hDk j) (fun e => by omega), ?_⟩
        have := hfr.put (i := i) ho dist
        rw [hdn] at this ⊢
        exact this
      · obtain ⟨hw, hrun⟩ := hstep i o hik his ho W ((Classical.em (D s)).elim (fun h => .inr (hg1 h)) (fun h => .inl (hg0 h)))
        rw [if_pos (hw'.trans hw)]
        refine .inl ?_
        unfold Oper.wp
        rw [he, hrun]
        exact .inl ⟨fun h => hg0 (fun hs => h (.inl hs)), fun h => hg1 (h.elim id (fun e => absurd e.symm his)), fun j hj => hj.elim (hDk j) (fun e => by omega), hfr.put (i := i) ho dist⟩
    · have hall : ∀ j, j < i → D j := fun j hj => anc_ready hcl ho hdep (hok.tail i (by omega) hin j hj)
      obtain ⟨m, h1, h2, h3, h4⟩ := full D a' W hJ (fun j hj => hall j (by omega))
      have hmi : m = i := by
        by_cases e1 : i < m
        · exact absurd ((h3 i hin).2 e1) hDi
        · by_cases e2 : m < i
          · have := (h3 m (by omega)).1 (hall m e2); omega
          · omega
      subst hmi
      have hdr : ops.toList.drop m = o :: ops.toList.drop (m + 1) := by
        have : m < ops.toList.length := by simpa using hin
        rw [List.drop_eq_getElem_cons this]
        congr 1
        have := (Array.getElem?_eq_some_iff.1 ho).2
        simpa using this
      rw [hdr] at h4
      unfold wpList at h4
      have next : ∀ a W, wpList P ops Q (ops.toList.drop (m + 1)) a W → J (fun j => D j ∨ j = m) a W := fun a W h => .inr ⟨m + 1, by omega, by omega, fun j hj => by
        constructor
        · rintro (h | rfl)
          · have := (h3 j hj).1 h; omega
          · omega
        · intro h
          by_cases e : j = m
          · exact .inr e
          · exact .inl ((h3 j hj).2 (by omega)), h⟩
      split
      · rename_i hw
        rw [if_pos hw] at h4
        exact h4.imp (Oper.wp_mono next) id
      · rename_i hw
        rw [if_neg hw] at h4
        exact next _ _ h4
  · intro D a' W hJ hall
    obtain ⟨m, h1, h2, h3, h4⟩ := full D a' W hJ (fun j hj => hall j (by omega))
    have hmn : m = ops.size := by
      by_cases e : m < ops.size
      · have := (h3 m e).1 (hall m e); omega
      · omega
    subst hmn
    rw [List.drop_eq_nil_of_le (by simp)] at h4
    exact h4
end
end Go.Proofs.Ythgbobikbdklhaa
