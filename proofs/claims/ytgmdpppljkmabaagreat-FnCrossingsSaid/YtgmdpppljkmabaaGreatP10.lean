/- Parts of the proof: walks of functions and plain laws. -/
import Derived.Test.YtgmdpppljkmabaaGreatP0
import Derived.Test.YtgmdpppljkmabaaGreatP6
import Derived.Test.YtgmdpppljkmabaaGreatP9
namespace Go.Proofs.YtgmdpppljkmabaaGreat
open Go.RowKit
def forI (own : Int) (xs : List Int) : Bool := if own = 0 then xs.countP (fun x => x == own + 1) == xs.length else (xs.countP (fun x => x == own - 1) == 1) && (((xs.countP (fun x => x == own + 1) : Nat) : Int) == (xs.length : Int) - 1)
set_option maxHeartbeats 4000000 in
theorem acceptsForest_any (own : Int) (va : Value) (xs : List Int) (w : World) (h0 : 0 ≤ own) (h1 : own ≤ 999999999999) (ha : IntS w va xs) (hle : xs.length ≤ 1000000) :
  Calls Tryz.prog 173 #[.int .i64 own, va] w fun e w' => e = .returned (.bool (forI own xs)) ∧ Below w.heap.size w w' := by
 obtain ⟨A1, z1, rfl, hz1, hz2, hA1⟩ := ha
 unfold maxLen at hz2
 have HA1 := Lib.hid hA1
 clear hA1
 go_enter Tryz.func173, Tryz.ntmps173
 go_wp2
 go_loop [5, 6, 11] (fun c g i => ∃ j : Nat, j ≤ xs.length ∧ i = .int .i64 j ∧ c = .int .i64 (((xs.take j).countP fun x => x == own - 1 : Nat) : Int) ∧ g = .int .i64 (((xs.take j).countP fun x => x == own + 1 : Nat) : Int)) (fun _ _ i => xs.length - (intOf i).toNat)
 case atStart => exact ⟨0, Nat.zero_le _, rfl, by simp, by simp⟩
 case round =>
  obtain ⟨j, hj, rfl, rfl, rfl⟩ := hrel
  have hcb : ((xs.take j).countP fun x => x == own - 1) ≤ 1000000 ∧ ((xs.take j).countP fun x => x == own + 1) ≤ 1000000 := by
   have h1 := List.countP_le_length (p := fun x => x == own - 1) (l := xs.take j)
   have h2 := List.countP_le_length (p := fun x => x == own + 1) (l := xs.take j)
   simp at h1 h2 ⊢
   omega
  generalize hc : ((xs.take j).countP fun x => x == own - 1) = c at hcb ⊢
  generalize hg : ((xs.take j).countP fun x => x == own + 1) = g at hcb ⊢
  obtain ⟨hcb, hgb⟩ := hcb
  have Hc := Lib.hid hc
  have Hg := Lib.hid hg
  clear hc hg
  by_cases hlt : j < xs.length
  ·obtain ⟨y, hx⟩ := getx xs j hlt
   obtain ⟨b1, off1, rfl, hd1⟩ := HA1.out j y hx
   have Hx := Lib.hid hx
   clear hx
   cases f1 : (y == own - 1)
   all_goals
    cases f2 : (y == own + 1)
   all_goals
    have F := Lib.hid (And.intro f1 f2)
    go_wp2_with (go_at_call 90; refine (oneIf_any _ _).mono ?_; rintro e w' ⟨rfl, rfl⟩)
    go_round
    case rel => exact ⟨j + 1, by omega, by go_num, by rw [take_snoc Hx.out, countP_snoc, Hc.out, F.out.1]; simp, by rw [take_snoc Hx.out, countP_snoc, Hg.out, F.out.2]; simp⟩
    case measure => simp [intOf]; omega
  ·obtain rfl : j = xs.length := by omega
   have h1 := Hc.out
   have h2 := Hg.out
   rw [List.take_length] at h1 h2
   by_cases ho : own = 0
   ·have hr : Hid (forI own xs = (g == xs.length)) := by
     show _ = _
     unfold forI
     rw [if_pos ho, h2]
    have ho' : (own == 0) = true := by simp [ho]
    have Ho := Lib.hid ho
    clear h1 h2 ho
    go_wp2
    go_ret
    refine ⟨ret_bool ?_, Below.refl _ _⟩
    rw [hr.out, Bool.eq_iff_iff]; simp <;> omega
   ·have hr : Hid (forI own xs = ((c == 1) && ((g : Int) == (xs.length : Int) - 1))) := by
     show _ = _
     unfold forI
     rw [if_neg ho, h1, h2]
    have ho' : (own == 0) = false := by simpa using ho
    have m1 : IntKind.i64.wrap ((xs.length : Int) - 1) = (xs.length : Int) - 1 := wr64 _ (by omega) (by omega)
    clear h1 h2
    go_upto_region 10 with (fail)
    refine wp_region_flow0 10 (Since w) (since_refl _) ?_
    simp only [List.take_succ_cons, List.take_zero, List.drop_succ_cons, List.drop_zero]
    refine flow_val (v := ?_) rfl ?_ ?_; rotate_left; (intro W hW; go_simp; with_reducible rfl)
    simp only [zA]
    refine flow_val (v := ?_) rfl ?_ ?_; rotate_left; (intro W hW; go_simp; with_reducible rfl)
    simp only [zA]
    refine flow_val (v := ?_) rfl ?_ ?_; rotate_left; (intro W hW; go_simp; with_reducible rfl)
    simp only [zA]
    refine flow_gval (v := ?_) rfl rfl ?_ ?_; rotate_left; (intro hb; intro W hW; go_simp; with_reducible rfl)
    simp only [zA]
    refine flow_gval (v := ?_) rfl rfl ?_ ?_; rotate_left; (intro hb; intro W hW; go_simp; with_reducible rfl)
    simp only [zA]
    refine flow_gval (v := ?_) rfl rfl ?_ ?_; rotate_left; (intro hb; intro W hW; go_simp; with_reducible rfl)
    simp only [zA]
    refine flow_gval (v := ?_) rfl rfl ?_ ?_; rotate_left; (intro hb; intro W hW; go_simp; with_reducible rfl)
    simp only [zA]
    refine flow_gval (v := ?_) rfl rfl ?_ ?_; rotate_left; (intro hb; intro W hW; go_simp; with_reducible rfl)
    simp only [zA]
    first | refine flow_and rfl rfl ?_ | (refine flow_val (v := ?_) rfl ?_ ?_; rotate_left; (intro W hW; go_simp; with_reducible rfl))
    simp only [zA]
    refine flow_val (v := ?_) rfl ?_ ?_; rotate_left; (intro W hW; go_simp; with_reducible rfl)
    simp only [zA]
    intro W2 hW2
    have HW2 := Lib.hid hW2
    clear hW2 m1
    go_wp2
    go_ret
    refine ⟨ret_bool ?_, HW2.out⟩
    rw [hr.out, cast_beq1]
end Go.Proofs.YtgmdpppljkmabaaGreat
namespace Go.Proofs.YtgmdpppljkmabaaGreat
open Go.RowKit
theorem partsL4 (l : Int) : partsL 4 l = [l / 100, l % 100] := by simp [partsL, rangesL, pDiv, pRem]
theorem partsL5 (l : Int) : partsL 5 l = [l / 2 / 10 / 100, l / 2 / 10 % 100, l / 2 % 10, l % 2] := by simp [partsL, rangesL, pDiv, pRem]
theorem ints2 {w : World} {v : Value} {a b : Int} (h : IntS w v [a, b]) : ∃ g off c, v = .slice (some ⟨g, off, none⟩) 2 c ∧ (∀ W, Since w W → W.cell? ⟨g, off, none⟩ = some (.int .i64 a)) ∧ (∀ W, Since w W → W.cell? ⟨g, off + 1, none⟩ = some (.int .i64 b)) := by
 obtain ⟨A, c, rfl, _, _, hA⟩ := h
 obtain ⟨g, off, rfl, h0⟩ := hA 0 a rfl
 obtain ⟨g', off', e, h1⟩ := hA 1 b rfl
 cases e
 exact ⟨g, off, c, rfl, have_cell (by simpa using h0), have_cell h1⟩
theorem ints4 {w : World} {v : Value} {a b d e : Int} (h : IntS w v [a, b, d, e]) : ∃ g off c, v = .slice (some ⟨g, off, none⟩) 4 c ∧ (∀ W, Since w W → W.cell? ⟨g, off, none⟩ = some (.int .i64 a)) ∧ (∀ W, Since w W → W.cell? ⟨g, off + 1, none⟩ = some (.int .i64 b)) ∧ (∀ W, Since w W → W.cell? ⟨g, off + 2, none⟩ = some (.int .i64 d)) ∧ (∀ W, Since w W → W.cell? ⟨g, off + 3, none⟩ = some (.int .i64 e)) := by
 obtain ⟨A, c, rfl, _, _, hA⟩ := h
 obtain ⟨g, off, rfl, h0⟩ := hA 0 a rfl
 obtain ⟨g', off', e1, h1⟩ := hA 1 b rfl
 cases e1
 obtain ⟨g', off', e1, h2⟩ := hA 2 d rfl
 cases e1
 obtain ⟨g', off', e1, h3⟩ := hA 3 e rfl
 cases e1
 exact ⟨g, off, c, rfl, have_cell (by simpa using h0), have_cell h1, have_cell h2, have_cell h3⟩
theorem range_any_succ {k : Nat} {p : Nat → Bool} : (List.range (k + 1)).any p = ((List.range k).any p || p k) := by rw [List.range_succ, List.any_append]; simp
def lab (ls : List Int) (e : Int × Int) : Int := ls.getD e.1.toNat 0
def leadB (idk ink : Int) (ls : List Int) (l : Int) (es : List (Int × Int)) : Bool :=
 ((List.range es.length).all fun i => lab ls (es.getD i (0, 0)) / 100 == l / 100) && ((l % 100 == 0 && idk == l / 100 && ink == 1) || (decide (0 < l % 100) && ink != 1 && (List.range es.length).any fun i => lab ls (es.getD i (0, 0)) % 100 == l % 100 - 1))
theorem isOwnId_any (ve vi vn : Value) (n : Net) (k : Nat) (x idk : Int) (w : World) (h : NetIn w ve vi vn n) (hid : n.ids[k]? = some idk) :
  Calls Tryz.prog 214 #[.agg #[ve, vi, vn], .int .i64 k, .int .i64 x] w fun e w' => e = .returned (.bool (idk == x)) ∧ Below w.heap.size w w' := by
 obtain ⟨w0, hw0⟩ : ∃ w0, w0 = (w).alloc (.cells #[ve, vi, vn] 27) := ⟨_, rfl⟩
 have hb0 : Below w.heap.size w w0 := by rw [hw0]; exact ((Below.refl _ _).alloc (by simp) _)
 have H := Lib.hid (h.keep hb0)
 obtain ⟨h1, h2, h3⟩ := h.keep hb0
 obtain ⟨A, c, rfl, hlc, hm, hA⟩ := h1
 obtain ⟨A2, c2, rfl, _, hm2, _⟩ := h2
 obtain ⟨A3, c3, rfl, _, hm3, _⟩ := h3
 unfold maxLen at hm hm2 hm3
 have p00 : ∀ W, Since w0 W → W.cell? ⟨w.heap.size, 0, none⟩ = some (.slice A n.ends.length c) := have_cell (by rw [hw0]; simp)
 have p01 : ∀ W, Since w0 W → W.cell? ⟨w.heap.size, 1, none⟩ = some (.slice A2 n.ids.length c2) := have_cell (by rw [hw0]; simp)
 have p02 : ∀ W, Since w0 W → W.cell? ⟨w.heap.size, 2, none⟩ = some (.slice A3 n.inputs.length c3) := have_cell (by rw [hw0]; simp)
 have Hb0 := Lib.hid hb0
 have Hw0 := Lib.hid hw0
 have HA := Lib.hid hA
 clear hA h
 clear hb0 hw0
 obtain ⟨_, bl, ol, cl, l', e0, hv, hkl, hk', -, hd⟩ := lab_at H.out.is (x := (k : Int)) (by omega) (by have := lt_of_get hid; omega)
 cases hv
 obtain rfl : k = _ := by exact Int.ofNat.inj e0
 obtain rfl : idk = l' := Option.some.inj (hid.symm.trans hk')
 have t0 := have_cell hd
 have hs0 : Since w0 w0 := since_refl _
 clear hd hk' e0 hid
 go_enter Tryz.func214, Tryz.ntmps214
 go_upto_region 1 with (fail)
 rw [← Hw0.out]
 go_wp2
 go_ret
 exact ⟨rfl, Hb0.out⟩
set_option maxRecDepth 100000 in
set_option maxHeartbeats 8000000 in
theorem acceptsLeader_any (ve vi vn vl : Value) (n : Net) (ls : List Int) (k : Nat) (es : List (Int × Int)) (l idk ink : Int) (w : World) (h : NetIn w ve vi vn n) (hl : IntS w vl ls) (hes : n.ends[k]? = some es) (hle : es.length ≤ 6) (hin : ∀ e ∈ es, 0 ≤ e.1 ∧ e.1 < ls.length)
  (hlb : ∀ x ∈ l :: nearB ls es, 0 ≤ x ∧ x ≤ 999999999999) (hk : ls[k]? = some l) (hid : n.ids.length ≠ 0 → n.ids[k]? = some idk) (hinp : n.inputs[k]? = some ink) :
  Calls Tryz.prog 174 #[.agg #[ve, vi, vn], vl, .int .i64 k] w fun e w' => e = .returned (.bool (decide (n.ids.length ≠ 0) && leadB idk ink ls l es)) ∧ Below w.heap.size w w' := by
 obtain ⟨w0, hw0⟩ : ∃ w0, w0 = (w).alloc (.cells #[ve, vi, vn] 27) := ⟨_, rfl⟩
 have hb0 : Below w.heap.size w w0 := by rw [hw0]; exact ((Below.refl _ _).alloc (by simp) _)
 have H := Lib.hid (h.keep hb0)
 obtain ⟨h1, h2, h3⟩ := h.keep hb0
 obtain ⟨A, c, rfl, hlc, hm, hA⟩ := h1
 obtain ⟨A2, c2, rfl, _, hm2, _⟩ := h2
 obtain ⟨A3, c3, rfl, _, hm3, _⟩ := h3
 unfold maxLen at hm hm2 hm3
 have p00 : ∀ W, Since w0 W → W.cell? ⟨w.heap.size, 0, none⟩ = some (.slice A n.ends.length c) := have_cell (by rw [hw0]; simp)
 have p01 : ∀ W, Since w0 W → W.cell? ⟨w.heap.size, 1, none⟩ = some (.slice A2 n.ids.length c2) := have_cell (by rw [hw0]; simp)
 have p02 : ∀ W, Since w0 W → W.cell? ⟨w.heap.size, 2, none⟩ = some (.slice A3 n.inputs.length c3) := have_cell (by rw [hw0]; simp)
 have Hb0 := Lib.hid hb0
 have Hw0 := Lib.hid hw0
 have HA := Lib.hid hA
 clear hA h
 clear hb0 hw0
 have HL := Lib.hid (hl.keep Hb0.out)
 by_cases hid0 : n.ids.length = 0
 ·have hr := Lib.hid (show (decide (n.ids.length ≠ 0) && leadB idk ink ls l es) = false by simp [hid0])
  have hid1 : ((n.ids.length : Int) == 0) = true := by simp [hid0]
  clear hid0
  have hs0 : Since w0 w0 := since_refl _
  obtain ⟨AL, cL, rfl, hlL, hmL, _⟩ := hl
  go_enter Tryz.func174, Tryz.ntmps174
  go_upto_region 1 with (fail)
  rw [← Hw0.out]
  go_wp2
  go_ret
  exact ⟨ret_false hr.out, Hb0.out⟩
 ·have hidk := hid hid0
  have hr := Lib.hid (show (decide (n.ids.length ≠ 0) && leadB idk ink ls l es) = leadB idk ink ls l es by simp [hid0])
  have hid1 : ((n.ids.length : Int) == 0) = false := by simp; exact fun e => hid0 (by simp [e])
  obtain ⟨_, bl, ol, cl, l', e0, rfl, hkl, hk', -, hd⟩ := lab_at HL.out (x := (k : Int)) (by omega) (by have := lt_of_get hk; omega)
  obtain rfl : k = _ := by exact Int.ofNat.inj e0
  obtain rfl : l = l' := Option.some.inj (hk.symm.trans hk')
  obtain ⟨_, bi, oi, ci, i', e1, hv, hki, hi', -, hdi⟩ := lab_at H.out.ns (x := (k : Int)) (by omega) (by have := lt_of_get hinp; omega)
  cases hv
  obtain rfl : k = _ := by exact Int.ofNat.inj e1
  obtain rfl : ink = i' := Option.some.inj (hinp.symm.trans hi')
  obtain ⟨_, _, hv, hlL, hmL, _⟩ := id hl
  cases hv
  unfold maxLen at hmL
  have lb := hlb l (by simp)
  obtain ⟨lb0, lb1⟩ := lb
  have t0 := have_cell hd
  have t1 := have_cell hdi
  have Hes := Lib.hid hes
  have Hin := Lib.hid hin
  have Hlb := Lib.hid hlb
  have Hid' := Lib.hid hidk
  have hs0 : Since w0 w0 := since_refl _
  have hm0 : 0 ≤ l % 100 ∧ l % 100 < 100 := by omega
  obtain ⟨hm0, hm1⟩ := hm0
  clear hd hdi hk hk' e0 e1 hinp hi' hl hes hin hlb hid hidk hid0
  go_enter Tryz.func174, Tryz.ntmps174
  go_upto_region 1 with (fail)
  rw [← Hw0.out]
  go_wp2_with fail
  refine (partsOf_any 4 l lb0 lb1 _).mono ?_
  rw [partsL4]
  rintro e W1 ⟨u1, rfl, ho1, hb1⟩
  obtain ⟨g1, o1, c1, rfl, q0, q1⟩ := ints2 ho1.ints
  have hs1 : Since w0 W1 := hb1
  clear hb1 ho1 hs0
  go_wp2_with fail
  refine (near_any _ _ _ _ n ls k es _ (H.out.keep hs1.below) (HL.out.keep hs1.below) Hes.out (by omega) Hin.out).mono ?_
  rintro e W2 ⟨u2, rfl, ho2, hb2⟩
  have hlen : (nearB ls es).length = es.length := by simp [nearB]
  obtain ⟨A5, z5, hu, _, hz5, hA5⟩ := ho2.ints
  rw [hlen] at hu
  subst hu
  unfold maxLen at hz5
  have HA5 := Lib.hid hA5
  have Hlen := Lib.hid hlen
  have h12 : Since W1 W2 := hb2
  have hs2 := hs1.after h12
  have q0 := lift_cell q0 h12
  have q1 := lift_cell q1 h12
  have t0 := lift_cell t0 hs2
  have t1 := lift_cell t1 hs2
  have p00 := lift_cell p00 hs2
  have p01 := lift_cell p01 hs2
  have p02 := lift_cell p02 hs2
  have Hs2 := Lib.hid hs2
  clear hb2 ho2 hA5 hlen h12 hs1 hs2
  have hsW : Since W2 W2 := since_refl _
  go_wp2
  go_loopw [8, 26] (fun nr i wr => ∃ j : Nat, j ≤ es.length ∧ i = .int .i64 j ∧ nr = .bool ((List.range j).any fun i => lab ls (es.getD i (0, 0)) % 100 == l % 100 - 1) ∧ ((List.range j).all fun i => lab ls (es.getD i (0, 0)) / 100 == l / 100) = true ∧ Since W2 wr) (fun _ i _ => es.length - (intOf i).toNat)
  case atStart => exact ⟨0, Nat.zero_le _, rfl, rfl, rfl, hsW⟩
  case round =>
   obtain ⟨j, hj, rfl, rfl, hall, hsr⟩ := hrel
   have Hall := Lib.hid hall
   clear hall hsW
   generalize hnr : ((List.range j).any fun i => lab ls (es.getD i (0, 0)) % 100 == l % 100 - 1) = nr
   have Hnr := Lib.hid hnr
   clear hnr
   by_cases hlt : j < es.length
   ·obtain ⟨x, hx⟩ := getx es j hlt
    obtain ⟨y, hy⟩ := getx (nearB ls es) j (by rw [Hlen.out]; exact hlt)
    have hyx : lab ls (es.getD j (0, 0)) = y := by
     rw [getD_of hx]
     have : (nearB ls es)[j]? = some (lab ls x) := by simp [nearB, hx, lab]
     exact Option.some.inj (this.symm.trans hy)
    obtain ⟨b1, off1, rfl, hd1⟩ := HA5.out j y hy
    have yb : 0 ≤ y ∧ y ≤ 999999999999 := by
     exact Hlb.out y (List.mem_cons_of_mem _ (List.mem_of_getElem? hy))
    obtain ⟨y0, y1⟩ := yb
    have d1 := have_cell hd1
    have Hyx := Lib.hid hyx
    clear hx hy hyx hd1
    go_wp2_with fail
    refine (partsOf_any 4 y y0 y1 _).mono ?_
    rw [partsL4]
    rintro e W3 ⟨u3, rfl, ho3, hb3⟩
    obtain ⟨g3, o3, c3', rfl, r0, r1⟩ := ints2 ho3.ints
    have h23 : Since W2 W3 := hsr.trans hb3
    have Hq := Lib.hid (And.intro q0 q1)
    have z0 := lift_cell q0 h23
    have z1 := lift_cell q1 h23
    have H23 := Lib.hid h23
    clear hb3 ho3 h23 hsr q0 q1 d1
    go_upto_region 9 with (fail)
    refine wp_region_flow 7 (Since W3) (by kernel_rfl) (by kernel_rfl) (by simp) (since_drew (since_refl _)) ?_
    simp only [List.take_succ_cons, List.take_zero, List.drop_succ_cons, List.drop_zero]
    refine flow_val (v := ?_) rfl ?_ ?_; rotate_left; (intro W hW; go_simp; with_reducible rfl)
    simp only [zA]
    refine flow_val (v := ?_) rfl ?_ ?_; rotate_left; (intro W hW; go_simp; with_reducible rfl)
    simp only [zA]
    refine flow_val (v := ?_) rfl ?_ ?_; rotate_left; (intro W hW; go_simp; with_reducible rfl)
    simp only [zA]
    refine flow_val (v := ?_) rfl ?_ ?_; rotate_left; (intro W hW; go_simp; with_reducible rfl)
    simp only [zA]
    refine flow_val (v := ?_) rfl ?_ ?_; rotate_left; (intro W hW; go_simp; with_reducible rfl)
    simp only [zA]
    refine flow_val (v := ?_) rfl ?_ ?_; rotate_left; (intro W hW; go_simp; with_reducible rfl)
    simp only [zA]
    refine flow_val (v := ?_) rfl ?_ ?_; rotate_left; (intro W hW; go_simp; with_reducible rfl)
    simp only [zA]
    intro W4 hW4
    cases f1 : (y / 100 == l / 100)
    ·have F1 := Lib.hid f1
     have f1' : (y / 100 != l / 100) = true := by simp [bne, f1]
     have HW4 := Lib.hid hW4
     clear f1 hW4 r0 r1 z0 z1
     go_wp2
     go_ret
     refine ⟨ret_false ?_, Since.after Hb0.out (Hs2.out.after (H23.out.after HW4.out))⟩
     rw [hr.out]
     unfold leadB
     rw [Bool.and_eq_false_iff]
     exact .inl (range_all_stop hlt (by rw [Hyx.out]; exact F1.out))
    ·have F1 := Lib.hid f1
     have f1' : (y / 100 != l / 100) = false := by simp [bne, f1]
     have r0 := lift_cell r0 hW4
     have r1 := lift_cell r1 hW4
     have z0 := lift_cell z0 hW4
     have z1 := lift_cell z1 hW4
     have HW4 := Lib.hid (H23.out.after hW4)
     clear f1 hW4
     go_upto_region 11 with (fail)
     have m1 : IntKind.i64.wrap (l % 100 - 1) = l % 100 - 1 := wr64 _ (by omega) (by omega)
     refine wp_region_flow 11 (Since W4) (by kernel_rfl) (by kernel_rfl) (by simp) (since_drew (since_refl _)) ?_
     simp only [List.take_succ_cons, List.take_zero, List.drop_succ_cons, List.drop_zero]
     refine flow_val (v := ?_) rfl ?_ ?_; rotate_left; (intro W hW; go_simp; with_reducible rfl)
     simp only [zA]
     refine flow_val (v := ?_) rfl ?_ ?_; rotate_left; (intro W hW; go_simp; with_reducible rfl)
     simp only [zA]
     refine flow_gval (v := ?_) rfl rfl ?_ ?_; rotate_left; (intro hb; intro W hW; go_simp; with_reducible rfl)
     simp only [zA]
     refine flow_gval (v := ?_) rfl rfl ?_ ?_; rotate_left; (intro hb; intro W hW; go_simp; with_reducible rfl)
     simp only [zA]
     refine flow_gval (v := ?_) rfl rfl ?_ ?_; rotate_left; (intro hb; intro W hW; go_simp; with_reducible rfl)
     simp only [zA]
     refine flow_gval (v := ?_) rfl rfl ?_ ?_; rotate_left; (intro hb; intro W hW; go_simp; with_reducible rfl)
     simp only [zA]
     refine flow_gval (v := ?_) rfl rfl ?_ ?_; rotate_left; (intro hb; intro W hW; go_simp; with_reducible rfl)
     simp only [zA]
     refine flow_gval (v := ?_) rfl rfl ?_ ?_; rotate_left; (intro hb; intro W hW; go_simp; with_reducible rfl)
     simp only [zA]
     refine flow_gval (v := ?_) rfl rfl ?_ ?_; rotate_left; (intro hb; intro W hW; go_simp; with_reducible rfl)
     simp only [zA]
     refine flow_gval (v := ?_) rfl rfl ?_ ?_; rotate_left; (intro hb; intro W hW; go_simp; with_reducible rfl)
     simp only [zA]
     first | refine flow_or rfl rfl ?_ | (refine flow_val (v := ?_) rfl ?_ ?_; rotate_left; (intro W hW; go_simp; with_reducible rfl))
     simp only [zA]
     intro W5 hW5
     have HW5 := Lib.hid (HW4.out.after hW5)
     clear hW5 m1 r0 r1 z0 z1 f1'
     go_wp2
     go_roundw
     case rel => exact ⟨j + 1, by omega, by go_num, by rw [range_any_succ, Hnr.out, Hyx.out], by rw [range_all_succ, Hall.out, Hyx.out, F1.out]; rfl, HW5.out⟩
     case measure => simp [intOf]; omega
   ·obtain rfl : j = es.length := by omega
    have hr2 : Hid (leadB idk ink ls l es = ((l % 100 == 0 && idk == l / 100 && ink == 1) || (decide (0 < l % 100) && ink != 1 && nr))) := by
     show _ = _
     unfold leadB
     rw [Hall.out, Hnr.out, Bool.true_and]
    have z0 := lift_cell q0 hsr
    have z1 := lift_cell q1 hsr
    have t1 := lift_cell t1 hsr
    have p00 := lift_cell p00 hsr
    have p01 := lift_cell p01 hsr
    have p02 := lift_cell p02 hsr
    have Hsr := Lib.hid hsr
    have hsX : Since wr wr := since_refl _
    clear hsr q0 q1
    cases f2 : (l % 100 == 0)
    ·have F2 := Lib.hid f2
     go_upto_region 15 with (fail)
     clear hsX
     refine wp_region_flow0 10 (Since wr) (since_refl _) ?_
     simp only [List.take_succ_cons, List.take_zero, List.drop_succ_cons, List.drop_zero]
     refine flow_val (v := ?_) rfl ?_ ?_; rotate_left; (intro W hW; go_simp; with_reducible rfl)
     simp only [zA]
     refine flow_val (v := ?_) rfl ?_ ?_; rotate_left; (intro W hW; go_simp; with_reducible rfl)
     simp only [zA]
     refine flow_val (v := ?_) rfl ?_ ?_; rotate_left; (intro W hW; go_simp; with_reducible rfl)
     simp only [zA]
     refine flow_val (v := ?_) rfl ?_ ?_; rotate_left; (intro W hW; go_simp; with_reducible rfl)
     simp only [zA]
     refine flow_val (v := ?_) rfl ?_ ?_; rotate_left; (intro W hW; go_simp; with_reducible rfl)
     simp only [zA]
     refine flow_val (v := ?_) rfl ?_ ?_; rotate_left; (intro W hW; go_simp; with_reducible rfl)
     simp only [zA]
     refine flow_val (v := ?_) rfl ?_ ?_; rotate_left; (intro W hW; go_simp; with_reducible rfl)
     simp only [zA]
     refine flow_gval (v := ?_) rfl rfl ?_ ?_; rotate_left; (intro hb; intro W hW; go_simp; with_reducible rfl)
     simp only [zA]
     first | refine flow_and rfl rfl ?_ | (refine flow_val (v := ?_) rfl ?_ ?_; rotate_left; (intro W hW; go_simp; with_reducible rfl))
     simp only [zA]
     refine flow_val (v := ?_) rfl ?_ ?_; rotate_left; (intro W hW; go_simp; with_reducible rfl)
     simp only [zA]
     intro W5 hW5
     have HW5 := Lib.hid hW5
     clear hW5
     go_wp2
     go_ret
     refine ⟨ret_bool ?_, Since.after Hb0.out (Hs2.out.after (Hsr.out.after HW5.out))⟩
     rw [hr.out, hr2.out, F2.out]
     have : decide (0 < l % 100) = true := by
      have := F2.out
      simp at this ⊢
      omega
     rw [this]
     simp
    ·have F2 := Lib.hid f2
     go_upto_region 14 with (fail)
     clear hsX
     refine wp_region_flow 15 (Since wr) (by kernel_rfl) (by kernel_rfl) (by simp) (since_drew (since_refl _)) ?_
     simp only [List.take_succ_cons, List.take_zero, List.drop_succ_cons, List.drop_zero]
     refine flow_val (v := ?_) rfl ?_ ?_; rotate_left; (intro W hW; go_simp; with_reducible rfl)
     simp only [zA]
     refine flow_val (v := ?_) rfl ?_ ?_; rotate_left; (intro W hW; go_simp; with_reducible rfl)
     simp only [zA]
     refine flow_val (v := ?_) rfl ?_ ?_; rotate_left; (intro W hW; go_simp; with_reducible rfl)
     simp only [zA]
     refine flow_val (v := ?_) rfl ?_ ?_; rotate_left; (intro W hW; go_simp; with_reducible rfl)
     simp only [zA]
     refine flow_val (v := ?_) rfl ?_ ?_; rotate_left; (intro W hW; go_simp; with_reducible rfl)
     simp only [zA]
     refine flow_op ?_ rfl ?_ ?_; rotate_left; (intro W hW; unfold Gives; go_simp; (with_reducible refine (isOwnId_any _ _ _ n k _ idk W (H.out.keep (Hs2.out.after (Hsr.out.after hW)).below) Hid'.out).mono ?_); rintro e W' ⟨rfl, hb3⟩; first | (refine ⟨?_, Since.trans hW hb3⟩; with_reducible rfl) | (subst hb3; refine ⟨?_, hW⟩; with_reducible rfl))
     simp only [zA]
     refine flow_val (v := ?_) rfl ?_ ?_; rotate_left; (intro W hW; go_simp; with_reducible rfl)
     simp only [zA]
     refine flow_gval (v := ?_) rfl rfl ?_ ?_; rotate_left; (intro hb; intro W hW; go_simp; with_reducible rfl)
     simp only [zA]
     refine flow_gval (v := ?_) rfl rfl ?_ ?_; rotate_left; (intro hb; intro W hW; go_simp; with_reducible rfl)
     simp only [zA]
     refine flow_gval (v := ?_) rfl rfl ?_ ?_; rotate_left; (intro hb; intro W hW; go_simp; with_reducible rfl)
     simp only [zA]
     refine flow_gval (v := ?_) rfl rfl ?_ ?_; rotate_left; (intro hb; intro W hW; go_simp; with_reducible rfl)
     simp only [zA]
     refine flow_gval (v := ?_) rfl rfl ?_ ?_; rotate_left; (intro hb; intro W hW; go_simp; with_reducible rfl)
     simp only [zA]
     refine flow_gval (v := ?_) rfl rfl ?_ ?_; rotate_left; (intro hb; intro W hW; go_simp; with_reducible rfl)
     simp only [zA]
     first | refine flow_and rfl rfl ?_ | (refine flow_val (v := ?_) rfl ?_ ?_; rotate_left; (intro W hW; go_simp; with_reducible rfl))
     simp only [zA]
     refine flow_val (v := ?_) rfl ?_ ?_; rotate_left; (intro W hW; go_simp; with_reducible rfl)
     simp only [zA]
     intro W5 hW5
     have HW5 := Lib.hid hW5
     clear hW5
     go_wp2
     go_ret
     refine ⟨ret_bool ?_, Since.after Hb0.out (Hs2.out.after (Hsr.out.after HW5.out))⟩
     rw [hr.out, hr2.out, F2.out]
     have : decide (0 < l % 100) = false := by
      have := F2.out
      simp at this ⊢
      omega
     rw [this]
     simp
end Go.Proofs.YtgmdpppljkmabaaGreat
namespace Go.Proofs.YtgmdpppljkmabaaGreat
open Go.RowKit
end Go.Proofs.YtgmdpppljkmabaaGreat
namespace Go.Proofs.YtgmdpppljkmabaaGreat
open Go.RowKit
def ev0 (x : Int) : Int := x / 2 / 10 / 100
def ev1 (x : Int) : Int := x / 2 / 10 % 100
def ev2 (x : Int) : Int := x / 2 % 10
def ev3 (x : Int) : Int := x % 2
theorem partsE (l : Int) : partsL 5 l = [ev0 l, ev1 l, ev2 l, ev3 l] := partsL5 l
theorem ev1_bd (x : Int) : 0 ≤ ev1 x ∧ ev1 x < 100 := by unfold ev1; omega
theorem ev3_bd (x : Int) : 0 ≤ ev3 x ∧ ev3 x ≤ 1 := by unfold ev3; omega
def evHit (l : Int) (e : Int × Int) (y : Int) : Bool := e.2 == ev2 y && ev1 y == ev1 l + 1
def evSum (ls : List Int) (l : Int) (es : List (Int × Int)) : Nat → Int
 | 0 => 1
 | j + 1 => evSum ls l es j + if evHit l (es.getD j (0, 0)) (lab ls (es.getD j (0, 0))) then ev3 (lab ls (es.getD j (0, 0))) else 0
theorem evSum_bd (ls : List Int) (l : Int) (es : List (Int × Int)) (j : Nat) : 1 ≤ evSum ls l es j ∧ evSum ls l es j ≤ 1 + j := by
 induction j with
 | zero => simp [evSum]
 | succ j ih =>
  have := ev3_bd (lab ls (es.getD j (0, 0)))
  unfold evSum
  split <;> omega
def evAny (ls : List Int) (l : Int) (es : List (Int × Int)) (j : Nat) : Bool := (List.range j).any fun i => ((i : Int) == ev2 l) && (ev1 (lab ls (es.getD i (0, 0))) == ev1 l - 1)
def evAll (ls : List Int) (l : Int) (es : List (Int × Int)) (j : Nat) : Bool := (List.range j).all fun i => ev0 (lab ls (es.getD i (0, 0))) == ev0 l
def evenB (idk : Int) (ls : List Int) (l : Int) (es : List (Int × Int)) : Bool :=
 evAll ls l es es.length && (ev3 l == evSum ls l es es.length % 2) && ((ev1 l == 0 && ev2 l == 9 && idk == ev0 l && ev3 l == 0) || (decide (0 < ev1 l) && evAny ls l es es.length))
theorem labEnd {ls : List Int} {es : List (Int × Int)} {j : Nat} {x : Int × Int} {y : Int} (hx : es[j]? = some x) (hy : ls.getD x.1.toNat 0 = y) : lab ls (es.getD j (0, 0)) = y ∧ (es.getD j (0, 0)).2 = x.2 := by rw [getD_of hx]; exact ⟨hy, rfl⟩
theorem hitEq {ls : List Int} {es : List (Int × Int)} {j : Nat} {l x y : Int} {b : Bool} (h : lab ls (es.getD j (0, 0)) = y ∧ (es.getD j (0, 0)).2 = x) (f : (x == ev2 y && ev1 y == ev1 l + 1) = b) : evHit l (es.getD j (0, 0)) (lab ls (es.getD j (0, 0))) = b := by
 unfold evHit; rw [h.1, h.2]; exact f
set_option maxRecDepth 100000 in
set_option maxHeartbeats 8000000 in
theorem acceptsEven_any (ve vi vn vl : Value) (n : Net) (ls : List Int) (k : Nat) (es : List (Int × Int)) (l idk : Int) (w : World) (h : NetIn w ve vi vn n) (hl : IntS w vl ls) (hes : n.ends[k]? = some es) (hle : es.length ≤ 6) (hin : ∀ e ∈ es, 0 ≤ e.1 ∧ e.1 < ls.length)
  (hlb : ∀ x ∈ l :: nearB ls es, 0 ≤ x ∧ x ≤ 999999999999) (hk : ls[k]? = some l) (hid : n.ids.length ≠ 0 → n.ids[k]? = some idk) :
  Calls Tryz.prog 175 #[.agg #[ve, vi, vn], vl, .int .i64 k] w fun e w' => e = .returned (.bool (decide (n.ids.length ≠ 0) && evenB idk ls l es)) ∧ Below w.heap.size w w' := by
 obtain ⟨w0, hw0⟩ : ∃ w0, w0 = (w).alloc (.cells #[ve, vi, vn] 27) := ⟨_, rfl⟩
 have hb0 : Below w.heap.size w w0 := by rw [hw0]; exact ((Below.refl _ _).alloc (by simp) _)
 have H := Lib.hid (h.keep hb0)
 obtain ⟨h1, h2, h3⟩ := h.keep hb0
 obtain ⟨A, c, rfl, hlc, hm, hA⟩ := h1
 obtain ⟨A2, c2, rfl, _, hm2, _⟩ := h2
 obtain ⟨A3, c3, rfl, _, hm3, _⟩ := h3
 unfold maxLen at hm hm2 hm3
 have p00 : ∀ W, Since w0 W → W.cell? ⟨w.heap.size, 0, none⟩ = some (.slice A n.ends.length c) := have_cell (by rw [hw0]; simp)
 have p01 : ∀ W, Since w0 W → W.cell? ⟨w.heap.size, 1, none⟩ = some (.slice A2 n.ids.length c2) := have_cell (by rw [hw0]; simp)
 have p02 : ∀ W, Since w0 W → W.cell? ⟨w.heap.size, 2, none⟩ = some (.slice A3 n.inputs.length c3) := have_cell (by rw [hw0]; simp)
 have Hb0 := Lib.hid hb0
 have Hw0 := Lib.hid hw0
 have HA := Lib.hid hA
 clear hA h
 clear hb0 hw0
 have HL := Lib.hid (hl.keep Hb0.out)
 by_cases hid0 : n.ids.length = 0
 ·have hr := Lib.hid (show (decide (n.ids.length ≠ 0) && evenB idk ls l es) = false by simp [hid0])
  have hid1 : ((n.ids.length : Int) == 0) = true := by simp [hid0]
  clear hid0
  have hs0 : Since w0 w0 := since_refl _
  obtain ⟨AL, cL, rfl, hlL, hmL, _⟩ := hl
  go_enter Tryz.func175, Tryz.ntmps175
  go_upto_region 1 with (fail)
  rw [← Hw0.out]
  go_wp2
  go_ret
  exact ⟨ret_false hr.out, Hb0.out⟩
 have hidk := hid hid0
 have hr := Lib.hid (show (decide (n.ids.length ≠ 0) && evenB idk ls l es) = evenB idk ls l es by simp [hid0])
 have hid1 : ((n.ids.length : Int) == 0) = false := by simp; exact fun e => hid0 (by simp [e])
 obtain ⟨_, bl, ol, cl, l', e0, rfl, hkl, hk', -, hd⟩ := lab_at HL.out (x := (k : Int)) (by omega) (by have := lt_of_get hk; omega)
 obtain rfl : k = _ := by exact Int.ofNat.inj e0
 obtain rfl : l = l' := Option.some.inj (hk.symm.trans hk')
 obtain ⟨b0, off0, c0, u0, hA, hk0, hc1, hrow⟩ := row_at H.out.es hes
 cases hA
 obtain ⟨A1, z1, rfl, hz1, hz2, hA1⟩ := hrow
 unfold maxLen at hz2
 obtain ⟨_, _, hv, hlL, hmL, _⟩ := id hl
 cases hv
 unfold maxLen at hmL
 have lb := hlb l (by simp)
 obtain ⟨lb0, lb1⟩ := lb
 have t0 := have_cell hd
 have t3 := have_cell hc1
 have HA1 := Lib.hid hA1
 have Hin := Lib.hid hin
 have Hlb := Lib.hid hlb
 have Hid' := Lib.hid hidk
 have hs0 : Since w0 w0 := since_refl _
 have hm0 := ev1_bd l
 have hm3 := ev3_bd l
 obtain ⟨hm0, hm1⟩ := hm0
 obtain ⟨hm3, hm4⟩ := hm3
 clear hd hc1 hA1 hk hk' e0 hl hes hin hlb hid hidk hid0
 go_enter Tryz.func175, Tryz.ntmps175
 go_upto_region 1 with (fail)
 rw [← Hw0.out]
 go_wp2_with fail
 refine (partsOf_any 5 l lb0 lb1 _).mono ?_
 rw [partsE]
 rintro e W2 ⟨u1, rfl, ho1, hb1⟩
 obtain ⟨g1, o1, c1, rfl, q0, q1, q2, q3⟩ := ints4 ho1.ints
 have hs2 : Since w0 W2 := hb1
 have t0 := lift_cell t0 hs2
 have t3 := lift_cell t3 hs2
 have p00 := lift_cell p00 hs2
 have p01 := lift_cell p01 hs2
 have p02 := lift_cell p02 hs2
 have Hs2 := Lib.hid hs2
 have hsW : Since W2 W2 := since_refl _
 clear hb1 ho1 hs0 hs2
 go_wp2
 go_loopw [8, 9, 28] (fun sm nr i wr => ∃ j : Nat, j ≤ es.length ∧ i = .int .i64 j ∧ sm = .int .i64 (evSum ls l es j) ∧ nr = .bool (evAny ls l es j) ∧ evAll ls l es j = true ∧ Since W2 wr) (fun _ _ i _ => es.length - (intOf i).toNat)
 case atStart => exact ⟨0, Nat.zero_le _, rfl, rfl, rfl, rfl, hsW⟩
 case round =>
  obtain ⟨j, hj, rfl, rfl, rfl, hall, hsr⟩ := hrel
  have Hall := Lib.hid hall
  have hsb := evSum_bd ls l es j
  clear hall hsW
  generalize hnr : evAny ls l es j = nr
  generalize hsm : evSum ls l es j = sm at hsb ⊢
  obtain ⟨hsb1, hsb2⟩ := hsb
  have Hnr := Lib.hid hnr
  have Hsm := Lib.hid hsm
  clear hnr hsm
  by_cases hlt : j < es.length
  ·obtain ⟨⟨x1, x2⟩, hx⟩ := getx es j hlt
   obtain ⟨b1, off1, rfl, hd1, hd2⟩ := HA1.out j _ hx
   obtain ⟨i1, i2⟩ := Hin.out _ (List.mem_of_getElem? hx)
   simp only at i1 i2
   obtain ⟨m1', bl', ol', cl', y, rfl, hv, hm1', hg0, hg1, hd3⟩ := lab_at HL.out i1 i2
   cases hv
   have hyx := labEnd hx hg1
   have yb := Hlb.out y (seen_mem hx hg1)
   obtain ⟨y0, y1⟩ := yb
   have d1 := lift_cell (have_cell hd1) (Hs2.out.after hsr)
   have d2 := lift_cell (have_cell hd2) (Hs2.out.after hsr)
   have d3 := lift_cell (have_cell hd3) (Hs2.out.after hsr)
   have Hyx := Lib.hid hyx
   have hsX : Since wr wr := since_refl _
   have hbl := World.block_lt_of_cell? wr _ (d3 wr hsX)
   have y3b := ev3_bd y
   obtain ⟨y3b0, y3b1⟩ := y3b
   clear hx hd1 hd2 hd3 hyx hg0 hg1
   go_wp2_with fail
   refine (partsOf_any 5 y y0 y1 _).mono ?_
   rw [partsE]
   rintro e W3 ⟨u3, rfl, ho3, hb3⟩
   obtain ⟨g3, o3, c3', rfl, r0, r1, r2, r3⟩ := ints4 ho3.ints
   have hbx : Since (wr.alloc (Obj.cells #[Value.int IntKind.i64 (m1' : Int), Value.int IntKind.i64 x2] 83)) W3 := hb3
   have h23 : Since W2 W3 := hsr.after (Since.after (since_alloc _ (since_refl _)) hbx)
   have bx0 : ∀ X, Since W3 X → X.cell? ⟨wr.heap.size, 0, none⟩ = some (.int .i64 (m1' : Int)) := lift_cell (have_cell (by simp)) hbx
   have bx1 : ∀ X, Since W3 X → X.cell? ⟨wr.heap.size, 1, none⟩ = some (.int .i64 x2) := lift_cell (have_cell (by simp)) hbx
   have z0 := lift_cell q0 h23
   have z1 := lift_cell q1 h23
   have z2 := lift_cell q2 h23
   have z3 := lift_cell q3 h23
   have H23 := Lib.hid h23
   clear hb3 ho3 h23 hsr q0 q1 q2 q3 d1 d2 d3 hsX hbl hbx
   go_upto_region 10 with (fail)
   refine wp_region_flow 7 (Since W3) (by kernel_rfl) (by kernel_rfl) (by simp) (since_drew (since_refl _)) ?_
   simp only [List.take_succ_cons, List.take_zero, List.drop_succ_cons, List.drop_zero]
   refine flow_val (v := ?_) rfl ?_ ?_; rotate_left; (intro W hW; go_simp; with_reducible rfl)
   simp only [zA]
   refine flow_val (v := ?_) rfl ?_ ?_; rotate_left; (intro W hW; go_simp; with_reducible rfl)
   simp only [zA]
   refine flow_val (v := ?_) rfl ?_ ?_; rotate_left; (intro W hW; go_simp; with_reducible rfl)
   simp only [zA]
   refine flow_val (v := ?_) rfl ?_ ?_; rotate_left; (intro W hW; go_simp; with_reducible rfl)
   simp only [zA]
   refine flow_val (v := ?_) rfl ?_ ?_; rotate_left; (intro W hW; go_simp; with_reducible rfl)
   simp only [zA]
   refine flow_val (v := ?_) rfl ?_ ?_; rotate_left; (intro W hW; go_simp; with_reducible rfl)
   simp only [zA]
   refine flow_val (v := ?_) rfl ?_ ?_; rotate_left; (intro W hW; go_simp; with_reducible rfl)
   simp only [zA]
   intro W4 hW4
   cases f1 : (ev0 y == ev0 l)
   ·have F1 := Lib.hid f1
    have f1' : (ev0 y != ev0 l) = true := by simp [bne, f1]
    have HW4 := Lib.hid hW4
    clear f1 hW4 r0 r1 r2 r3 z0 z1 z2 z3
    go_wp2
    go_ret
    refine ⟨ret_false ?_, Since.after Hb0.out (Hs2.out.after (H23.out.after HW4.out))⟩
    rw [hr.out]
    unfold evenB
    rw [show evAll ls l es es.length = false from range_all_stop hlt (by rw [Hyx.out.1]; exact F1.out)]
    rfl
   ·have F1 := Lib.hid f1
    have f1' : (ev0 y != ev0 l) = false := by simp [bne, f1]
    have r1 := lift_cell r1 hW4
    have r2 := lift_cell r2 hW4
    have r3 := lift_cell r3 hW4
    have z1 := lift_cell z1 hW4
    have z2 := lift_cell z2 hW4
    have bx1 := lift_cell bx1 hW4
    have HW4 := Lib.hid (H23.out.after hW4)
    clear f1 hW4 r0 z0 z3 bx0
    have m1 : IntKind.i64.wrap (ev1 l - 1) = ev1 l - 1 := wr64 _ (by omega) (by omega)
    have m2 : IntKind.i64.wrap (ev1 l + 1) = ev1 l + 1 := wr64 _ (by omega) (by omega)
    go_upto_region 12 with (fail)
    refine wp_region_flow 16 (Since W4) (by kernel_rfl) (by kernel_rfl) (by simp) (since_drew (since_refl _)) ?_
    simp only [List.take_succ_cons, List.take_zero, List.drop_succ_cons, List.drop_zero]
    refine flow_val (v := ?_) rfl ?_ ?_; rotate_left; (intro W hW; go_simp; with_reducible rfl)
    simp only [zA]
    refine flow_val (v := ?_) rfl ?_ ?_; rotate_left; (intro W hW; go_simp; with_reducible rfl)
    simp only [zA]
    refine flow_val (v := ?_) rfl ?_ ?_; rotate_left; (intro W hW; go_simp; with_reducible rfl)
    simp only [zA]
    refine flow_val (v := ?_) rfl ?_ ?_; rotate_left; (intro W hW; go_simp; with_reducible rfl)
    simp only [zA]
    refine flow_val (v := ?_) rfl ?_ ?_; rotate_left; (intro W hW; go_simp; with_reducible rfl)
    simp only [zA]
    refine flow_val (v := ?_) rfl ?_ ?_; rotate_left; (intro W hW; go_simp; with_reducible rfl)
    simp only [zA]
    refine flow_val (v := ?_) rfl ?_ ?_; rotate_left; (intro W hW; go_simp; with_reducible rfl)
    simp only [zA]
    refine flow_gval (v := ?_) rfl rfl ?_ ?_; rotate_left; (intro hb; intro W hW; go_simp; with_reducible rfl)
    simp only [zA]
    refine flow_gval (v := ?_) rfl rfl ?_ ?_; rotate_left; (intro hb; intro W hW; go_simp; with_reducible rfl)
    simp only [zA]
    refine flow_gval (v := ?_) rfl rfl ?_ ?_; rotate_left; (intro hb; intro W hW; go_simp; with_reducible rfl)
    simp only [zA]
    refine flow_gval (v := ?_) rfl rfl ?_ ?_; rotate_left; (intro hb; intro W hW; go_simp; with_reducible rfl)
    simp only [zA]
    refine flow_gval (v := ?_) rfl rfl ?_ ?_; rotate_left; (intro hb; intro W hW; go_simp; with_reducible rfl)
    simp only [zA]
    refine flow_gval (v := ?_) rfl rfl ?_ ?_; rotate_left; (intro hb; intro W hW; go_simp; with_reducible rfl)
    simp only [zA]
    refine flow_gval (v := ?_) rfl rfl ?_ ?_; rotate_left; (intro hb; intro W hW; go_simp; with_reducible rfl)
    simp only [zA]
    refine flow_gval (v := ?_) rfl rfl ?_ ?_; rotate_left; (intro hb; intro W hW; go_simp; with_reducible rfl)
    simp only [zA]
    first | refine flow_and rfl rfl ?_ | (refine flow_val (v := ?_) rfl ?_ ?_; rotate_left; (intro W hW; go_simp; with_reducible rfl))
    simp only [zA]
    intro W5 hW5
    have r1 := lift_cell r1 hW5
    have r3 := lift_cell r3 hW5
    have z1 := lift_cell z1 hW5
    have z2 := lift_cell z2 hW5
    have HW5 := Lib.hid (HW4.out.after hW5)
    have hsY : Since W5 W5 := since_refl _
    clear hW5 r2 bx1 f1'
    cases f3 : (x2 == ev2 y && ev1 y == ev1 l + 1)
    all_goals
     have F3 := Lib.hid (hitEq Hyx.out f3)
     clear f3
     go_upto_region 14 with (fail)
     clear hsY
     refine wp_region_flow 18 (Since W5) (by kernel_rfl) (by kernel_rfl) (by simp) (since_drew (since_refl _)) ?_
     simp only [List.take_succ_cons, List.take_zero, List.drop_succ_cons, List.drop_zero]
     refine flow_val (v := ?_) rfl ?_ ?_; rotate_left; (intro W hW; go_simp; with_reducible rfl)
     simp only [zA]
     refine flow_val (v := ?_) rfl ?_ ?_; rotate_left; (intro W hW; go_simp; with_reducible rfl)
     simp only [zA]
     refine flow_gval (v := ?_) rfl rfl ?_ ?_; rotate_left; (intro hb; intro W hW; go_simp; with_reducible rfl)
     simp only [zA]
     refine flow_gval (v := ?_) rfl rfl ?_ ?_; rotate_left; (intro hb; intro W hW; go_simp; with_reducible rfl)
     simp only [zA]
     refine flow_gval (v := ?_) rfl rfl ?_ ?_; rotate_left; (intro hb; intro W hW; go_simp; with_reducible rfl)
     simp only [zA]
     refine flow_gval (v := ?_) rfl rfl ?_ ?_; rotate_left; (intro hb; intro W hW; go_simp; with_reducible rfl)
     simp only [zA]
     refine flow_gval (v := ?_) rfl rfl ?_ ?_; rotate_left; (intro hb; intro W hW; go_simp; with_reducible rfl)
     simp only [zA]
     refine flow_gval (v := ?_) rfl rfl ?_ ?_; rotate_left; (intro hb; intro W hW; go_simp; with_reducible rfl)
     simp only [zA]
     refine flow_gval2 (v := ?_) rfl rfl ?_ ?_; rotate_left; (intro hb hb2; intro W hW; go_simp; with_reducible rfl)
     simp only [zA]
     refine flow_gval2 (v := ?_) rfl rfl ?_ ?_; rotate_left; (intro hb hb2; intro W hW; go_simp; with_reducible rfl)
     simp only [zA]
     refine flow_gval2 (v := ?_) rfl rfl ?_ ?_; rotate_left; (intro hb hb2; intro W hW; go_simp; with_reducible rfl)
     simp only [zA]
     refine flow_gval2 (v := ?_) rfl rfl ?_ ?_; rotate_left; (intro hb hb2; intro W hW; go_simp; with_reducible rfl)
     simp only [zA]
     refine flow_gval2 (v := ?_) rfl rfl ?_ ?_; rotate_left; (intro hb hb2; intro W hW; go_simp; with_reducible rfl)
     simp only [zA]
     refine flow_gval2 (v := ?_) rfl rfl ?_ ?_; rotate_left; (intro hb hb2; intro W hW; go_simp; with_reducible rfl)
     simp only [zA]
     refine flow_gval2 (v := ?_) rfl rfl ?_ ?_; rotate_left; (intro hb hb2; intro W hW; go_simp; with_reducible rfl)
     simp only [zA]
     refine flow_gval2 (v := ?_) rfl rfl ?_ ?_; rotate_left; (intro hb hb2; intro W hW; go_simp; with_reducible rfl)
     simp only [zA]
     refine flow_gand rfl rfl rfl ?_
     simp only [zA]
     first | refine flow_or rfl rfl ?_ | (refine flow_val (v := ?_) rfl ?_ ?_; rotate_left; (intro W hW; go_simp; with_reducible rfl))
     simp only [zA]
     intro W6 hW6
     have HW6 := Lib.hid (HW5.out.after hW6)
     clear hW6 m1 m2 r1 r3 z1 z2
     go_wp2
     go_roundw
     case rel => exact ⟨j + 1, by omega, by go_num, by rw [evSum, F3.out, Hsm.out]; try rw [Hyx.out.1]; simp, by unfold evAny; rw [range_any_succ]; rw [show ((List.range j).any _) = nr from Hnr.out, Hyx.out.1], by unfold evAll; rw [range_all_succ, show ((List.range j).all _) = true from Hall.out, Hyx.out.1, F1.out]; rfl, HW6.out⟩
     case measure => simp [intOf]; omega
  ·obtain rfl : j = es.length := by omega
   have hr2 : Hid (evenB idk ls l es = ((ev3 l == sm % 2) && ((ev1 l == 0 && ev2 l == 9 && idk == ev0 l && ev3 l == 0) || (decide (0 < ev1 l) && nr)))) := by
    show _ = _
    unfold evenB
    rw [Hall.out, Hnr.out, Hsm.out, Bool.true_and]
   have z0 := lift_cell q0 hsr
   have z1 := lift_cell q1 hsr
   have z2 := lift_cell q2 hsr
   have z3 := lift_cell q3 hsr
   have p00 := lift_cell p00 hsr
   have p01 := lift_cell p01 hsr
   have p02 := lift_cell p02 hsr
   have Hsr := Lib.hid hsr
   have hsX : Since wr wr := since_refl _
   clear hsr q0 q1 q2 q3
   cases f2 : (ev3 l == sm % 2)
   ·have F2 := Lib.hid f2
    have f2' : (ev3 l != sm % 2) = true := by simp [bne, f2]
    clear f2
    go_wp2
    go_ret
    exact ⟨ret_false (by rw [hr.out, hr2.out, F2.out]; rfl), Since.after Hb0.out (Hs2.out.after Hsr.out)⟩
   ·have F2 := Lib.hid f2
    have f2' : (ev3 l != sm % 2) = false := by simp [bne, f2]
    clear f2
    cases f4 : (ev1 l == 0)
    ·have F4 := Lib.hid f4
     go_wp2
     go_ret
     refine ⟨ret_bool ?_, Since.after Hb0.out (Hs2.out.after Hsr.out)⟩
     rw [hr.out, hr2.out, F2.out, F4.out]
     have : decide (0 < ev1 l) = true := by
      have := F4.out
      simp at this ⊢
      omega
     rw [this]
     simp
    ·have F4 := Lib.hid f4
     go_upto_region 19 with (fail)
     clear hsX
     refine wp_region_flow 19 (Since wr) (by kernel_rfl) (by kernel_rfl) (by simp) (since_drew (since_refl _)) ?_
     simp only [List.take_succ_cons, List.take_zero, List.drop_succ_cons, List.drop_zero]
     refine flow_val (v := ?_) rfl ?_ ?_; rotate_left; (intro W hW; go_simp; with_reducible rfl)
     simp only [zA]
     refine flow_val (v := ?_) rfl ?_ ?_; rotate_left; (intro W hW; go_simp; with_reducible rfl)
     simp only [zA]
     refine flow_val (v := ?_) rfl ?_ ?_; rotate_left; (intro W hW; go_simp; with_reducible rfl)
     simp only [zA]
     refine flow_val (v := ?_) rfl ?_ ?_; rotate_left; (intro W hW; go_simp; with_reducible rfl)
     simp only [zA]
     refine flow_val (v := ?_) rfl ?_ ?_; rotate_left; (intro W hW; go_simp; with_reducible rfl)
     simp only [zA]
     refine flow_gval (v := ?_) rfl rfl ?_ ?_; rotate_left; (intro hb; intro W hW; go_simp; with_reducible rfl)
     simp only [zA]
     refine flow_gval (v := ?_) rfl rfl ?_ ?_; rotate_left; (intro hb; intro W hW; go_simp; with_reducible rfl)
     simp only [zA]
     refine flow_gval (v := ?_) rfl rfl ?_ ?_; rotate_left; (intro hb; intro W hW; go_simp; with_reducible rfl)
     simp only [zA]
     refine flow_gval (v := ?_) rfl rfl ?_ ?_; rotate_left; (intro hb; intro W hW; go_simp; with_reducible rfl)
     simp only [zA]
     refine flow_gval (v := ?_) rfl rfl ?_ ?_; rotate_left; (intro hb; intro W hW; go_simp; with_reducible rfl)
     simp only [zA]
     refine flow_gop (v := ?_) rfl rfl ?_ ?_; rotate_left; (intro hb; intro W hW; unfold Gives; go_simp; (with_reducible refine (isOwnId_any _ _ _ n k _ idk W (H.out.keep (Hs2.out.after (Hsr.out.after hW)).below) Hid'.out).mono ?_); rintro e W' ⟨rfl, hb3⟩; first | (refine ⟨?_, Since.trans hW hb3⟩; with_reducible rfl) | (subst hb3; refine ⟨?_, hW⟩; with_reducible rfl))
     simp only [zA]
     first | refine flow_and rfl rfl ?_ | (refine flow_val (v := ?_) rfl ?_ ?_; rotate_left; (intro W hW; go_simp; with_reducible rfl))
     simp only [zA]
     refine flow_val (v := ?_) rfl ?_ ?_; rotate_left; (intro W hW; go_simp; with_reducible rfl)
     simp only [zA]
     refine flow_gval (v := ?_) rfl rfl ?_ ?_; rotate_left; (intro hb; intro W hW; go_simp; with_reducible rfl)
     simp only [zA]
     refine flow_gval (v := ?_) rfl rfl ?_ ?_; rotate_left; (intro hb; intro W hW; go_simp; with_reducible rfl)
     simp only [zA]
     refine flow_gval (v := ?_) rfl rfl ?_ ?_; rotate_left; (intro hb; intro W hW; go_simp; with_reducible rfl)
     simp only [zA]
     refine flow_gval (v := ?_) rfl rfl ?_ ?_; rotate_left; (intro hb; intro W hW; go_simp; with_reducible rfl)
     simp only [zA]
     first | refine flow_and rfl rfl ?_ | (refine flow_val (v := ?_) rfl ?_ ?_; rotate_left; (intro W hW; go_simp; with_reducible rfl))
     simp only [zA]
     refine flow_val (v := ?_) rfl ?_ ?_; rotate_left; (intro W hW; go_simp; with_reducible rfl)
     simp only [zA]
     intro W5 hW5
     have HW5 := Lib.hid hW5
     clear hW5
     go_wp2
     go_ret
     refine ⟨ret_bool ?_, Since.after Hb0.out (Hs2.out.after (Hsr.out.after HW5.out))⟩
     rw [hr.out, hr2.out, F2.out, F4.out]
     have : decide (0 < ev1 l) = false := by
      have := F4.out
      simp at this ⊢
      omega
     rw [this]
     simp
end Go.Proofs.YtgmdpppljkmabaaGreat
namespace Go.Proofs.YtgmdpppljkmabaaGreat
open Go.RowKit
end Go.Proofs.YtgmdpppljkmabaaGreat
