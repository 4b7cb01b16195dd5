/- Parts of the proof: walks of functions and plain laws. -/
import Derived.Test.YtgmdpppljkmabaaGreatP0
import Derived.Test.YtgmdpppljkmabaaGreatP15
import Derived.Test.YtgmdpppljkmabaaGreatP4
import Derived.Test.YtgmdpppljkmabaaGreatP5
import Derived.Test.YtgmdpppljkmabaaGreatP6
import Derived.Test.YtgmdpppljkmabaaGreatP13
import Derived.Test.YtgmdpppljkmabaaGreatP11
import Derived.Maps.OwnOps
import Derived.Maps.RangeWalk
import Derived.WalkArith
import Derived.Test.YtgmdpppljkmabaaGreatP12
import Derived.Test.YtgmdpppljkmabaaGreatP3
namespace Go.Proofs.YtgmdpppljkmabaaGreat
open Go Go.RowKit
/-! two networks alike -/
set_option maxRecDepth 100000 in
set_option maxHeartbeats 8000000 in
theorem pSameNet_same (ve vi vn ue ui un : Value) (n : Net) (w : World) (h : NetIn w ve vi vn n) (h' : NetIn w ue ui un n) :
  Calls Tryz.prog 14 #[.agg #[ve, vi, vn], .agg #[ue, ui, un]] w fun e w' => e = .returned (.bool true) ∧ Below w.heap.size w w' := by
 obtain ⟨A1, c1, rfl, hl1, hm1, hA1⟩ := id h.1
 obtain ⟨AI, cI, rfl, -, -, -⟩ := id h.2.1
 obtain ⟨AN, cN, rfl, -, -, -⟩ := id h.2.2
 obtain ⟨B1, d1, rfl, hl2, hm2, hB1⟩ := id h'.1
 obtain ⟨BI, dI, rfl, -, -, -⟩ := id h'.2.1
 obtain ⟨BN, dN, rfl, -, -, -⟩ := id h'.2.2
 unfold maxLen at hm1 hm2
 obtain ⟨w0, hw0⟩ : ∃ z, z = (w.alloc (.cells #[.slice A1 n.ends.length c1, .slice AI n.ids.length cI, .slice AN n.inputs.length cN] 27)).alloc (.cells #[.slice B1 n.ends.length d1, .slice BI n.ids.length dI, .slice BN n.inputs.length dN] 27) := ⟨_, rfl⟩
 have hs0 : Since w w0 := by rw [hw0]; exact since_alloc _ (since_alloc _ (since_refl _))
 have p0 : ∀ W, Since w0 W → W.cell? ⟨w.heap.size, 0, none⟩ = some (.slice A1 n.ends.length c1) := have_cell (by rw [hw0]; simp)
 have p1 : ∀ W, Since w0 W → W.cell? ⟨w.heap.size, 1, none⟩ = some (.slice AI n.ids.length cI) := have_cell (by rw [hw0]; simp)
 have p2 : ∀ W, Since w0 W → W.cell? ⟨w.heap.size, 2, none⟩ = some (.slice AN n.inputs.length cN) := have_cell (by rw [hw0]; simp)
 have q0 : ∀ W, Since w0 W → W.cell? ⟨w.heap.size + 1, 0, none⟩ = some (.slice B1 n.ends.length d1) := have_cell (by rw [hw0]; simp)
 have q1 : ∀ W, Since w0 W → W.cell? ⟨w.heap.size + 1, 1, none⟩ = some (.slice BI n.ids.length dI) := have_cell (by rw [hw0]; simp)
 have q2 : ∀ W, Since w0 W → W.cell? ⟨w.heap.size + 1, 2, none⟩ = some (.slice BN n.inputs.length dN) := have_cell (by rw [hw0]; simp)
 have HA := Lib.hid (show ∀ X, Since w0 X → NetIn X (.slice A1 n.ends.length c1) (.slice AI n.ids.length cI) (.slice AN n.inputs.length cN) n from fun X hX => h.keep (hs0.after hX).below)
 have HB := Lib.hid (show ∀ X, Since w0 X → NetIn X (.slice B1 n.ends.length d1) (.slice BI n.ids.length dI) (.slice BN n.inputs.length dN) n from fun X hX => h'.keep (hs0.after hX).below)
 have Hw0 := Lib.hid hw0
 have Hs0 := Lib.hid hs0
 clear hw0 hs0 h h' hA1 hB1
 go_enter Tryz.func14, Tryz.ntmps14
 go_upto_region 1 with (fail)
 rw [← Hw0.out]
 have hs : Since w0 w0 := since_refl _
 have bb : ((n.ends.length : Int) != (n.ends.length : Int)) = false := by simp
 have a0 := p0 w0 hs
 have a1 := p1 w0 hs
 have b0 := q0 w0 hs
 have b1 := q1 w0 hs
 go_wp2_with fail
 refine (sameInts_same _ _ n.ids _ (HA.out w0 hs).2.1 (HB.out w0 hs).2.1).mono ?_
 rintro e w1 ⟨rfl, hb1⟩
 have hs1 : Since w0 w1 := hs.trans hb1
 have a2 := p2 w1 hs1
 have b2 := q2 w1 hs1
 clear a0 a1 b0 b1 hb1 hs
 go_wp2_with fail
 refine (sameInts_same _ _ n.inputs _ (HA.out w1 hs1).2.2 (HB.out w1 hs1).2.2).mono ?_
 rintro e w2 ⟨rfl, hb2⟩
 have hs2 : Since w0 w2 := hs1.trans hb2
 have a0 := p0 w2 hs2
 clear a2 b2 hb2 hs1 p1 p2 q1 q2
 go_wp2
 clear a0
 go_loopw [33] (fun i wr => ∃ k : Nat, k ≤ n.ends.length ∧ i = .int .i64 k ∧ Since w0 wr) (fun i _ => n.ends.length - (intOf i).toNat)
 case atStart => exact ⟨0, Nat.zero_le _, rfl, hs2⟩
 case round =>
  obtain ⟨k, hk, rfl, hsr⟩ := hrel
  obtain ⟨wo, rfl⟩ : ∃ z, z = wr := ⟨_, rfl⟩
  clear hs2
  by_cases hlt : k < n.ends.length
  ·obtain ⟨es, hes⟩ := getx n.ends k hlt
   obtain ⟨b, offr, cr, ur, hA1', -, hc1, hE1⟩ := row_at (HA.out w0 (since_refl _)).es hes
   cases hA1'
   obtain ⟨A9, y9, rfl, hz1, hz2, hA9⟩ := hE1
   obtain ⟨b', offr', cr', ur', hA2', -, hc2, hE2⟩ := row_at (HB.out w0 (since_refl _)).es hes
   cases hA2'
   obtain ⟨B9, x9, rfl, hz3, hz4, hB9⟩ := hE2
   unfold maxLen at hz2 hz4
   have r1 := have_cell hc1
   have r2 := have_cell hc2
   have HA9 := Lib.hid hA9
   have HB9 := Lib.hid hB9
   have bl : ((es.length : Int) != (es.length : Int)) = false := by simp
   have m1 : IntKind.i64.wrap ((k : Int) + 1) = (k : Int) + 1 := wr64 _ (by omega) (by omega)
   clear hA9 hB9 hc1 hc2 hes
   go_upto_region 6 with (fail)
   refine wp_region_flow 13 (Since w0) (by kernel_rfl) (by kernel_rfl) (by simp) (since_drew hsr) ?_
   simp only [List.take_succ_cons, List.take_zero, List.drop_succ_cons, List.drop_zero]
   refine flow_val (v := ?_) rfl ?_ ?_; rotate_left; (intro W hW; go_simp; with_reducible rfl)
   simp only [zA]
   refine flow_val (v := ?_) rfl ?_ ?_; rotate_left; (intro W hW; go_simp; with_reducible rfl)
   simp only [zA]
   refine flow_val (v := ?_) rfl ?_ ?_; rotate_left; (intro W hW; go_simp; with_reducible rfl)
   simp only [zA]
   refine flow_val (v := ?_) rfl ?_ ?_; rotate_left; (intro W hW; go_simp; with_reducible rfl)
   simp only [zA]
   refine flow_val (v := ?_) rfl ?_ ?_; rotate_left; (intro W hW; go_simp; with_reducible rfl)
   simp only [zA]
   refine flow_val (v := ?_) rfl ?_ ?_; rotate_left; (intro W hW; go_simp; with_reducible rfl)
   simp only [zA]
   refine flow_val (v := ?_) rfl ?_ ?_; rotate_left; (intro W hW; go_simp; with_reducible rfl)
   simp only [zA]
   refine flow_val (v := ?_) rfl ?_ ?_; rotate_left; (intro W hW; go_simp; with_reducible rfl)
   simp only [zA]
   refine flow_val (v := ?_) rfl ?_ ?_; rotate_left; (intro W hW; go_simp; with_reducible rfl)
   simp only [zA]
   refine flow_val (v := ?_) rfl ?_ ?_; rotate_left; (intro W hW; go_simp; with_reducible rfl)
   simp only [zA]
   refine flow_val (v := ?_) rfl ?_ ?_; rotate_left; (intro W hW; go_simp; with_reducible rfl)
   simp only [zA]
   refine flow_val (v := ?_) rfl ?_ ?_; rotate_left; (intro W hW; go_simp; with_reducible rfl)
   simp only [zA]
   refine flow_val (v := ?_) rfl ?_ ?_; rotate_left; (intro W hW; go_simp; with_reducible rfl)
   simp only [zA]
   clear hsr
   intro W hW
   have a0 := p0 W hW
   have a1 := r1 W hW
   go_upto_region 9 with (fail)
   clear a0 a1
   go_loopw [55] (fun i wr => ∃ j : Nat, j ≤ es.length ∧ i = .int .i64 j ∧ Since w0 wr) (fun i _ => es.length - (intOf i).toNat)
   case atStart => exact ⟨0, Nat.zero_le _, rfl, hW⟩
   case round =>
    obtain ⟨j, hj, rfl, hsq⟩ := hrel
    clear hW
    by_cases hjl : j < es.length
    ·obtain ⟨e, he⟩ := getx es j hjl
     obtain ⟨g1, o1, rfl, t1, t2⟩ := HA9.out j e he
     obtain ⟨g2, o2, rfl, t3, t4⟩ := HB9.out j e he
     have t1 := have_cell t1
     have t2 := have_cell t2
     have t3 := have_cell t3
     have t4 := have_cell t4
     have m2 : IntKind.i64.wrap ((j : Int) + 1) = (j : Int) + 1 := wr64 _ (by omega) (by omega)
     clear he
     go_upto_region 11 with (fail)
     refine wp_region_flow 17 (Since w0) (by kernel_rfl) (by kernel_rfl) (by simp) (since_drew hsq) ?_
     simp only [List.take_succ_cons, List.take_zero, List.drop_succ_cons, List.drop_zero]
     refine flow_val (v := ?_) rfl ?_ ?_; rotate_left; (intro W hW; go_simp; with_reducible rfl)
     simp only [zA]
     refine flow_val (v := ?_) rfl ?_ ?_; rotate_left; (intro W hW; go_simp; with_reducible rfl)
     simp only [zA]
     refine flow_val (v := ?_) rfl ?_ ?_; rotate_left; (intro W hW; go_simp; with_reducible rfl)
     simp only [zA]
     refine flow_val (v := ?_) rfl ?_ ?_; rotate_left; (intro W hW; go_simp; with_reducible rfl)
     simp only [zA]
     refine flow_val (v := ?_) rfl ?_ ?_; rotate_left; (intro W hW; go_simp; with_reducible rfl)
     simp only [zA]
     refine flow_val (v := ?_) rfl ?_ ?_; rotate_left; (intro W hW; go_simp; with_reducible rfl)
     simp only [zA]
     refine flow_val (v := ?_) rfl ?_ ?_; rotate_left; (intro W hW; go_simp; with_reducible rfl)
     simp only [zA]
     refine flow_val (v := ?_) rfl ?_ ?_; rotate_left; (intro W hW; go_simp; with_reducible rfl)
     simp only [zA]
     refine flow_val (v := ?_) rfl ?_ ?_; rotate_left; (intro W hW; go_simp; with_reducible rfl)
     simp only [zA]
     refine flow_val (v := ?_) rfl ?_ ?_; rotate_left; (intro W hW; go_simp; with_reducible rfl)
     simp only [zA]
     refine flow_val (v := ?_) rfl ?_ ?_; rotate_left; (intro W hW; go_simp; with_reducible rfl)
     simp only [zA]
     refine flow_val (v := ?_) rfl ?_ ?_; rotate_left; (intro W hW; go_simp; with_reducible rfl)
     simp only [zA]
     refine flow_val (v := ?_) rfl ?_ ?_; rotate_left; (intro W hW; go_simp; with_reducible rfl)
     simp only [zA]
     refine flow_val (v := ?_) rfl ?_ ?_; rotate_left; (intro W hW; go_simp; with_reducible rfl)
     simp only [zA]
     refine flow_val (v := ?_) rfl ?_ ?_; rotate_left; (intro W hW; go_simp; with_reducible rfl)
     simp only [zA]
     refine flow_val (v := ?_) rfl ?_ ?_; rotate_left; (intro W hW; go_simp; with_reducible rfl)
     simp only [zA]
     refine flow_val (v := ?_) rfl ?_ ?_; rotate_left; (intro W hW; go_simp; with_reducible rfl)
     simp only [zA]
     intro W2 hW2
     clear hsq
     go_wp2
     ·exfalso
      rename_i hq
      simp [eqE] at hq
     go_roundw
     case rel => exact ⟨j + 1, by omega, by first | rfl | go_num, hW2⟩
     case measure => simp [intOf]; omega
    ·go_wp2
     go_roundw
     case rel => exact ⟨k + 1, by omega, by first | rfl | go_num, hsq⟩
     case measure => simp [intOf]; omega
  ·go_wp2
   go_ret
   exact ⟨rfl, (Hs0.out.after hsr).below⟩
end Go.Proofs.YtgmdpppljkmabaaGreat
namespace Go.Proofs.YtgmdpppljkmabaaGreat
open Go Go.RowKit
/-! big -/
def bigB (a b : Nat) : Bool := decide (1048576 < a) || decide (1048576 < a + b)
theorem big_any (A B : Option Addr) (a c b d : Nat) (w : World) (hc : a ≤ 9223372036854775807) (hd : b ≤ 9223372036854775807) :
  Calls Tryz.prog 7 #[.slice A a c, .slice B b d] w fun e w' => e = .returned (.bool (bigB a b)) ∧ w = w' := by
 go_enter Tryz.func7, Tryz.ntmps7
 by_cases h : 1048576 < a
 ·have e1 : ((1048576 : Int) < (a : Int)) = True := by simp; omega
  go_wp2
  go_ret
  exact ⟨by unfold bigB; simp [h], rfl⟩
 ·have e1 : ((1048576 : Int) < (a : Int)) = False := by simp; omega
  have m1 : IntKind.i64.wrap (1048576 - (a : Int)) = 1048576 - (a : Int) := wr64 _ (by omega) (by omega)
  by_cases h2 : 1048576 < a + b
  ·have e2 : (1048576 - (a : Int) < (b : Int)) = True := by simp; omega
   go_wp2
   go_ret
   exact ⟨by unfold bigB; simp [h2], rfl⟩
  ·have e2 : (1048576 - (a : Int) < (b : Int)) = False := by simp; omega
   go_wp2
   go_ret
   exact ⟨by unfold bigB; simp [h, h2], rfl⟩
end Go.Proofs.YtgmdpppljkmabaaGreat
namespace Go.Proofs.YtgmdpppljkmabaaGreat
open Go.RowKit
/-! the nodes with a distance are those that can be reached -/
inductive Rch (n : Net) (v : Nat) : Nat → Prop
 | refl : Rch n v v
 | step {a b : Nat} : Rch n v a → (b : Int) ∈ bsee n (a : Int) → Rch n v b
structure BR (n : Net) (v : Nat) (st : List Int × List Int) : Prop where
 seen : ∀ w : Nat, w < n.ends.length → (0 ≤ st.1.getD w 0 ↔ (w : Int) ∈ st.2)
 rch : ∀ x ∈ st.2, Rch n v x.toNat
 start : (v : Int) ∈ st.2
theorem BR.one {n : Net} {v : Nat} {st : List Int × List Int} {cur x : Int} (hI : BI n.ends.length st) (h : BR n v st) (hc : cur ∈ st.2) (hx : x ∈ bsee n cur) (hxr : 0 ≤ x ∧ x < n.ends.length) : BR n v (bstep cur st x) ∧ x ∈ (bstep cur st x).2 := by
 have hcr := hI.walk cur hc
 obtain ⟨c, rfl⟩ := Int.eq_ofNat_of_zero_le hcr.1
 obtain ⟨y, rfl⟩ := Int.eq_ofNat_of_zero_le hxr.1
 have hq := (h.seen c (by omega)).2 hc
 have hlen := hI.len
 unfold bstep
 split
 ·rename_i hneg
  refine ⟨⟨fun w hw => ?_, fun z hz => ?_, List.mem_append_left _ h.start⟩, by simp⟩
  ·show 0 ≤ (st.1.set (y : Int).toNat _).getD w 0 ↔ (w : Int) ∈ st.2 ++ [(y : Int)]
   rw [List.getD_eq_getElem?_getD, List.getElem?_set, Int.toNat_natCast]
   by_cases e : y = w
   ·subst e
    rw [if_pos rfl, if_pos (by omega)]
    simp only [Option.getD_some, List.mem_append, List.mem_singleton, or_true, iff_true]
    rw [Int.toNat_natCast]
    omega
   ·rw [if_neg e, ← List.getD_eq_getElem?_getD, h.seen w hw, List.mem_append, List.mem_singleton]
    constructor
    ·exact Or.inl
    ·rintro (h2 | h2)
     ·exact h2
     ·omega
  ·rcases List.mem_append.1 hz with hz | hz
   ·exact h.rch z hz
   ·obtain rfl : z = (y : Int) := by simpa using hz
    exact Rch.step (h.rch _ hc) (by simpa using hx)
 ·rename_i hneg
  exact ⟨h, (h.seen y (by omega)).1 (by rw [Int.toNat_natCast] at hneg; omega)⟩
theorem rch_lt {n : Net} (hn : netOk n = true) {v w : Nat} (hv : v < n.ends.length) (h : Rch n v w) : w < n.ends.length := by
 induction h with
 | refl => exact hv
 | step _ h2 ih => have := see_in hn ⟨by omega, by omega⟩ _ h2; omega
theorem Rch.trans {n : Net} {a b c : Nat} (h : Rch n a b) (h2 : Rch n b c) : Rch n a c := by
 induction h2 with
 | refl => exact h
 | step _ hb ih => exact Rch.step ih hb
end Go.Proofs.YtgmdpppljkmabaaGreat
namespace Go.Proofs.YtgmdpppljkmabaaGreat
open Go.RowKit
theorem see_iff {n : Net} {a b : Nat} : (b : Int) ∈ bsee n (a : Int) ↔ ∃ (j : Nat) (q : Int), (n.ends.getD a [])[j]? = some ((b : Int), q) := by
 unfold bsee
 rw [List.mem_map, Int.toNat_natCast]
 constructor
 ·rintro ⟨⟨x, q⟩, hm, h⟩
  obtain ⟨j, hj⟩ := List.mem_iff_getElem?.1 hm
  simp only at h
  subst h
  exact ⟨j, q, hj⟩
 ·rintro ⟨j, q, h⟩
  exact ⟨_, List.mem_of_getElem? h, rfl⟩
theorem see_sym {n : Net} (hn : netOk n = true) {a b : Nat} (ha : a < n.ends.length) (h : (b : Int) ∈ bsee n (a : Int)) : (a : Int) ∈ bsee n (b : Int) := by
 obtain ⟨j, q, hj⟩ := see_iff.1 h
 have hjl : j < (n.ends.getD a []).length := by
  rcases Nat.lt_or_ge j (n.ends.getD a []).length with h2 | h2
  ·exact h2
  ·rw [List.getElem?_eq_none h2] at hj; cases hj
 have hp : hasPortB n.ends (a : Int) (j : Int) = true := by
  unfold hasPortB
  rw [Bool.and_eq_true, Int.toNat_natCast]
  exact ⟨inB_iff.2 (by omega), inB_iff.2 (by omega)⟩
 have h2 := netOk_end hn hp
 have he : endAt n.ends (a : Int) (j : Int) = ((b : Int), q) := by
  unfold endAt
  rw [Int.toNat_natCast, Int.toNat_natCast, List.getD_eq_getElem?_getD, hj]
  rfl
 rw [he] at h2
 obtain ⟨h3, h4⟩ := h2
 unfold hasPortB at h3
 rw [Bool.and_eq_true] at h3
 have h5 := inB_iff.1 h3.2
 obtain ⟨q', rfl⟩ := Int.eq_ofNat_of_zero_le h5.1
 rw [see_iff]
 unfold endAt at h4
 rw [Int.toNat_natCast, Int.toNat_natCast] at h4
 rw [Int.toNat_natCast] at h5
 refine ⟨q', (j : Int), ?_⟩
 have hl : q' < (n.ends.getD b []).length := by omega
 rw [List.getD_eq_getElem?_getD (l := n.ends.getD b []), List.getElem?_eq_getElem hl] at h4
 rw [List.getElem?_eq_getElem hl]
 exact congrArg some h4
theorem Rch.symm {n : Net} (hn : netOk n = true) {a b : Nat} (ha : a < n.ends.length) (h : Rch n a b) : Rch n b a := by
 induction h with
 | refl => exact Rch.refl
 | step h1 hb ih => exact Rch.trans (Rch.step Rch.refl (see_sym hn (rch_lt hn ha h1) hb)) ih
end Go.Proofs.YtgmdpppljkmabaaGreat
namespace Go.Proofs.YtgmdpppljkmabaaGreat
open Go.RowKit
/-! the components: the least node of each -/
def leastB (n : Net) (v : Nat) : Nat := ((List.range n.ends.length).find? fun w => decide (0 ≤ (distB n v).getD w 0)).getD 0
end Go.Proofs.YtgmdpppljkmabaaGreat
namespace Go.Proofs.YtgmdpppljkmabaaGreat
open Go.RowKit
/-! forests: edges, nodes and components -/
inductive Con (E : List (Nat × Nat)) (a : Nat) : Nat → Prop
 | refl : Con E a a
 | step {b c : Nat} : Con E a b → ((b, c) ∈ E ∨ (c, b) ∈ E) → Con E a c
theorem Con.trans {E : List (Nat × Nat)} {a b c : Nat} (h : Con E a b) (k : Con E b c) : Con E a c := by
 induction k with
 | refl => exact h
 | step _ hs ih => exact ih.step hs
theorem Con.one {E : List (Nat × Nat)} {a b : Nat} (h : (a, b) ∈ E ∨ (b, a) ∈ E) : Con E a b := Con.refl.step h
theorem Con.symm {E : List (Nat × Nat)} {a b : Nat} (h : Con E a b) : Con E b a := by
 induction h with
 | refl => exact .refl
 | step _ hs ih => exact (Con.one hs.symm).trans ih
def Least (E : List (Nat × Nat)) (v : Nat) : Prop := ∀ u, Con E v u → v ≤ u
theorem Least.eq {E : List (Nat × Nat)} {a b : Nat} (ha : Least E a) (hb : Least E b) (h : Con E a b) : a = b := Nat.le_antisymm (ha b h) (hb a h.symm)
open Classical in
noncomputable def parts (E : List (Nat × Nat)) (n : Nat) : Nat := (List.range n).countP fun v => decide (Least E v)
end Go.Proofs.YtgmdpppljkmabaaGreat
namespace Go.Proofs.YtgmdpppljkmabaaGreat
open Go.RowKit
/-! the forest test of a network -/
end Go.Proofs.YtgmdpppljkmabaaGreat
namespace Go.Proofs.YtgmdpppljkmabaaGreat
open Go.RowKit
end Go.Proofs.YtgmdpppljkmabaaGreat
namespace Go.Proofs.YtgmdpppljkmabaaGreat
open Go.RowKit
/-! two colours, plain law -/
end Go.Proofs.YtgmdpppljkmabaaGreat
namespace Go.Proofs.YtgmdpppljkmabaaGreat
open Go.RowKit
/-! the search for a colouring with three colours, as a plain function -/
def tcMu (v : Int) (s : Nat) : Nat := (200000 - s) * 2 + (v + 1).toNat
structure TcSt (n : Net) (l : List Int) (v : Int) (s : Nat) (f : Nat) : Prop where
 len : l.length = n.ends.length
 rng : ∀ x ∈ l, -1 ≤ x ∧ x ≤ 2
 lo : -1 ≤ v
 hi : v ≤ (n.ends.length : Int)
 st : s ≤ 200000
 fu : tcMu v s < f
end Go.Proofs.YtgmdpppljkmabaaGreat
namespace Go.Proofs.YtgmdpppljkmabaaGreat
open Go.RowKit
/-! the search for labels as a machine: the labels, the place, the steps made -/
theorem getD_set (ls : List Int) (v j : Nat) (x : Int) (hj : j < ls.length) : (ls.set v x).getD j 0 = if v = j then x else ls.getD j 0 := by
 simp only [List.getD_eq_getElem?_getD, List.getElem?_set]
 split
 ·rename_i e; subst e; simp [hj]
 ·rfl
structure St (N : Nat) (most : Int) (ls : List Int) (v : Nat) : Prop where
 len : ls.length = N
 lo : ∀ j, j < v → j < N → 0 ≤ ls.getD j 0 ∧ ls.getD j 0 ≤ most
 at_ : v < N → -1 ≤ ls.getD v 0 ∧ ls.getD v 0 ≤ most
 hi : ∀ j, v < j → j < N → ls.getD j 0 = -1
structure Up (N : Nat) (most : Int) (ls : List Int) (v : Nat) : Prop where
 len : ls.length = N
 lo : ∀ j, j ≤ v → j < N → 0 ≤ ls.getD j 0 ∧ ls.getD j 0 ≤ most
 hi : ∀ j, v < j → j < N → ls.getD j 0 = -1
theorem St.start (N : Nat) (most : Int) (hm : 0 ≤ most) : St N most (List.replicate N (-1)) 0 where
 len := by simp
 lo := fun j hj => by omega
 at_ := fun h => by simp [List.getD_eq_getElem?_getD, List.getElem?_replicate, h]; omega
 hi := fun j _ h => by simp [List.getD_eq_getElem?_getD, List.getElem?_replicate, h]
theorem St.back {N : Nat} {most : Int} {ls : List Int} {v : Nat} (h : St N most ls v) (h0 : ¬ v = 0) : St N most (ls.set v (-1)) (v - 1) where
 len := by simp [h.len]
 lo := fun j hj hn => by rw [getD_set _ _ _ _ (by rw [h.len]; exact hn), if_neg (by omega)]; exact h.lo j (by omega) hn
 at_ := fun hn => by rw [getD_set _ _ _ _ (by rw [h.len]; exact hn), if_neg (by omega)]; have := h.lo (v - 1) (by omega) hn; omega
 hi := fun j hj hn => by
  rw [getD_set _ _ _ _ (by rw [h.len]; exact hn)]
  split
  ·rfl
  ·exact h.hi j (by omega) hn
theorem St.up {N : Nat} {most : Int} {ls : List Int} {v : Nat} (h : St N most ls v) (hv : v < N) (hm : ¬ ls.getD v 0 = most) : Up N most (ls.set v (ls.getD v 0 + 1)) v where
 len := by simp [h.len]
 lo := fun j hj hn => by
  rw [getD_set _ _ _ _ (by rw [h.len]; exact hn)]
  have := h.at_ hv
  split
  ·omega
  ·exact h.lo j (by omega) hn
 hi := fun j hj hn => by rw [getD_set _ _ _ _ (by rw [h.len]; exact hn), if_neg (by omega)]; exact h.hi j hj hn
theorem Up.on {N : Nat} {most : Int} {ls : List Int} {v : Nat} (h : Up N most ls v) (hm : 0 ≤ most) : St N most ls (v + 1) where
 len := h.len
 lo := fun j hj hn => h.lo j (by omega) hn
 at_ := fun hn => by have := h.hi (v + 1) (by omega) hn; omega
 hi := fun j hj hn => h.hi j (by omega) hn
end Go.Proofs.YtgmdpppljkmabaaGreat
namespace Go.Proofs.YtgmdpppljkmabaaGreat
open Go.RowKit
/-! the reference's search -/
def KindOk (s m most : Int) : Prop := (s = 0 ∧ 3 ≤ m ∧ m ≤ 40 ∧ most = m - 1) ∨ (1 ≤ s ∧ s ≤ 5 ∧ 0 ≤ most ∧ most ≤ 999999999999)
theorem KindOk.most {s m most : Int} (h : KindOk s m most) : 0 ≤ most ∧ most ≤ 999999999999 := by unfold KindOk at h; omega
def AS (W : World) (B : Nat) (ve vi vn : Value) (s m most lim st : Int) (vl : Value) : Prop := W.heap[B]? = some (.cells #[ve, vi, vn, .int .i64 s, .int .i64 m, .int .i64 most, .int .i64 lim, .int .i64 st, vl] 109)
section
variable {W W' : World} {B : Nat} {ve vi vn vl : Value} {s m most lim st : Int}
theorem AS.c0 (h : AS W B ve vi vn s m most lim st vl) : W.cell? ⟨B, 0, none⟩ = some ve := by unfold AS at h; simp [World.cell?, h]
theorem AS.c1 (h : AS W B ve vi vn s m most lim st vl) : W.cell? ⟨B, 1, none⟩ = some vi := by unfold AS at h; simp [World.cell?, h]
theorem AS.c2 (h : AS W B ve vi vn s m most lim st vl) : W.cell? ⟨B, 2, none⟩ = some vn := by unfold AS at h; simp [World.cell?, h]
theorem AS.c3 (h : AS W B ve vi vn s m most lim st vl) : W.cell? ⟨B, 3, none⟩ = some (.int .i64 s) := by unfold AS at h; simp [World.cell?, h]
theorem AS.c4 (h : AS W B ve vi vn s m most lim st vl) : W.cell? ⟨B, 4, none⟩ = some (.int .i64 m) := by unfold AS at h; simp [World.cell?, h]
theorem AS.c5 (h : AS W B ve vi vn s m most lim st vl) : W.cell? ⟨B, 5, none⟩ = some (.int .i64 most) := by unfold AS at h; simp [World.cell?, h]
theorem AS.c6 (h : AS W B ve vi vn s m most lim st vl) : W.cell? ⟨B, 6, none⟩ = some (.int .i64 lim) := by unfold AS at h; simp [World.cell?, h]
theorem AS.c7 (h : AS W B ve vi vn s m most lim st vl) : W.cell? ⟨B, 7, none⟩ = some (.int .i64 st) := by unfold AS at h; simp [World.cell?, h]
theorem AS.c8 (h : AS W B ve vi vn s m most lim st vl) : W.cell? ⟨B, 8, none⟩ = some vl := by unfold AS at h; simp [World.cell?, h]
theorem AS.fz (h : AS W B ve vi vn s m most lim st vl) (k : Nat) : W.frozen? ⟨B, k, none⟩ = false := by unfold AS at h; simp [World.frozen?, h]
theorem AS.lt (h : AS W B ve vi vn s m most lim st vl) : B < W.heap.size := (Array.getElem?_eq_some_iff.1 h).1
theorem AS.since (h : AS W B ve vi vn s m most lim st vl) (hs : Since W W') : AS W' B ve vi vn s m most lim st vl := (hs.below.block B h.lt).trans h
theorem AS.other (h : AS W B ve vi vn s m most lim st vl) {b' : Nat} (hb : B ≠ b') (i : Nat) (v : Value) : AS (W.setCell ⟨b', i, none⟩ v) B ve vi vn s m most lim st vl := (Below.heap_setCell W _ v B hb).trans h
end
end Go.Proofs.YtgmdpppljkmabaaGreat
namespace Go.Proofs.YtgmdpppljkmabaaGreat
open Go.RowKit
end Go.Proofs.YtgmdpppljkmabaaGreat
namespace Go.Proofs.YtgmdpppljkmabaaGreat
open Go.RowKit
theorem getD_some {ls : List Int} {v : Nat} (h : v < ls.length) : ls[v]? = some (ls.getD v 0) := by rw [List.getD_eq_getElem?_getD, List.getElem?_eq_getElem h]; rfl
end Go.Proofs.YtgmdpppljkmabaaGreat
namespace Go.Proofs.YtgmdpppljkmabaaGreat
open Go.RowKit
/-! the program's search -/
def LS (W : World) (B : Nat) (ve vi vn va vl : Value) : Prop := W.heap[B]? = some (.cells #[ve, vi, vn, va, vl] 104)
section
variable {W W' : World} {B : Nat} {ve vi vn va vl : Value}
theorem LS.c0 (h : LS W B ve vi vn va vl) : W.cell? ⟨B, 0, none⟩ = some ve := by unfold LS at h; simp [World.cell?, h]
theorem LS.c1 (h : LS W B ve vi vn va vl) : W.cell? ⟨B, 1, none⟩ = some vi := by unfold LS at h; simp [World.cell?, h]
theorem LS.c2 (h : LS W B ve vi vn va vl) : W.cell? ⟨B, 2, none⟩ = some vn := by unfold LS at h; simp [World.cell?, h]
theorem LS.c3 (h : LS W B ve vi vn va vl) : W.cell? ⟨B, 3, none⟩ = some va := by unfold LS at h; simp [World.cell?, h]
theorem LS.c4 (h : LS W B ve vi vn va vl) : W.cell? ⟨B, 4, none⟩ = some vl := by unfold LS at h; simp [World.cell?, h]
theorem LS.fz (h : LS W B ve vi vn va vl) (k : Nat) : W.frozen? ⟨B, k, none⟩ = false := by unfold LS at h; simp [World.frozen?, h]
theorem LS.lt (h : LS W B ve vi vn va vl) : B < W.heap.size := (Array.getElem?_eq_some_iff.1 h).1
theorem LS.since (h : LS W B ve vi vn va vl) (hs : Since W W') : LS W' B ve vi vn va vl := (hs.below.block B h.lt).trans h
theorem LS.other (h : LS W B ve vi vn va vl) {b' : Nat} (hb : B ≠ b') (i : Nat) (v : Value) : LS (W.setCell ⟨b', i, none⟩ v) B ve vi vn va vl := (Below.heap_setCell W _ v B hb).trans h
end
end Go.Proofs.YtgmdpppljkmabaaGreat
namespace Go.Proofs.YtgmdpppljkmabaaGreat
open Go.RowKit
end Go.Proofs.YtgmdpppljkmabaaGreat
namespace Go.Proofs.YtgmdpppljkmabaaGreat
open Go.RowKit
end Go.Proofs.YtgmdpppljkmabaaGreat
namespace Go.Proofs.YtgmdpppljkmabaaGreat
open Go.RowKit
end Go.Proofs.YtgmdpppljkmabaaGreat
namespace Go.Proofs.YtgmdpppljkmabaaGreat
open Go.RowKit
/-! leaders and sizes of components, plain law -/
def oneIn (n : Net) (p : Nat) (w : Nat) : Bool := decide (leastB n w = p) && decide (n.inputs.getD w 0 = 1)
def onesTo (n : Net) (p k : Nat) : List Nat := (List.range k).filter (oneIn n p)
theorem onesTo_succ (n : Net) (p k : Nat) : onesTo n p (k + 1) = onesTo n p k ++ (if oneIn n p k = true then [k] else []) := by
 unfold onesTo
 rw [List.range_succ, List.filter_append]
 congr 1
 cases h : oneIn n p k <;> simp [h]
def ownTo (n : Net) (p k : Nat) : Int := match onesTo n p k with
 | [] => -1
 | w :: _ => (w : Int)
theorem ownTo_skip {n : Net} {p k : Nat} (h : oneIn n p k = false) : onesTo n p (k + 1) = onesTo n p k ∧ ownTo n p (k + 1) = ownTo n p k := by
 have : onesTo n p (k + 1) = onesTo n p k := by rw [onesTo_succ, h]; simp
 exact ⟨this, by unfold ownTo; rw [this]⟩
def sizeTo (n : Net) (p k : Nat) : Nat := ((List.range k).filter fun w => decide (leastB n w = p)).length
theorem sizeTo_succ (n : Net) (p k : Nat) : sizeTo n p (k + 1) = sizeTo n p k + (if leastB n k = p then 1 else 0) := by
 unfold sizeTo
 rw [List.range_succ, List.filter_append, List.length_append]
 congr 1
 by_cases h : leastB n k = p
 ·rw [if_pos h, List.filter_cons_of_pos (by simpa using h)]; rfl
 ·rw [if_neg h, List.filter_cons_of_neg (by simpa using h)]; rfl
end Go.Proofs.YtgmdpppljkmabaaGreat
namespace Go.Proofs.YtgmdpppljkmabaaGreat
open Go.RowKit
/-! no cycle: the reference's girth and the program's count of edges, plain law -/
end Go.Proofs.YtgmdpppljkmabaaGreat
namespace Go.Proofs.YtgmdpppljkmabaaGreat
open Go.RowKit
end Go.Proofs.YtgmdpppljkmabaaGreat
namespace Go.Proofs.YtgmdpppljkmabaaGreat
/-! all lists of labels, in order: the digits of a number, and counting up -/
end Go.Proofs.YtgmdpppljkmabaaGreat
namespace Go.Proofs.YtgmdpppljkmabaaGreat
open Go.RowKit
theorem Only.since {S : List Nat} {w0 W W' : World} (h : Since w0 W) (ho : Only S W W') (hs : ∀ k ∈ S, w0.heap.size ≤ k) : Since w0 W' := Below.trans h (ho.below _ h.below.size hs)
end Go.Proofs.YtgmdpppljkmabaaGreat
namespace Go.Proofs.YtgmdpppljkmabaaGreat
open Go.RowKit
end Go.Proofs.YtgmdpppljkmabaaGreat
namespace Go.Proofs.YtgmdpppljkmabaaGreat
open Go.RowKit
end Go.Proofs.YtgmdpppljkmabaaGreat
namespace Go.Proofs.YtgmdpppljkmabaaGreat
open Go.RowKit
theorem I1.only {W W' : World} {b : Nat} {x : Int} {S : List Nat} (h : I1 W b x) (ho : Only S W W') (hb : b ∉ S) : I1 W' b x := (ho.block b h.lt hb).trans h
end Go.Proofs.YtgmdpppljkmabaaGreat
namespace Go.Proofs.YtgmdpppljkmabaaGreat
open Go.RowKit
def U1 (W : World) (b : Nat) (u : Value) : Prop := W.heap[b]? = some (.cells #[u] 25)
theorem U1.cells {W : World} {b : Nat} {u : Value} (h : U1 W b u) : W.cell? ⟨b, 0, none⟩ = some u ∧ W.frozen? ⟨b, 0, none⟩ = false := by
 unfold U1 at h
 constructor
 ·simp [World.cell?, h]
 ·simp [World.frozen?, h]
theorem U1.lt {W : World} {b : Nat} {u : Value} (h : U1 W b u) : b < W.heap.size := (Array.getElem?_eq_some_iff.1 h).1
theorem U1.since {W W' : World} {b : Nat} {u : Value} (h : U1 W b u) (hs : Since W W') : U1 W' b u := (hs.below.block b h.lt).trans h
theorem U1.only {W W' : World} {b : Nat} {u : Value} {S : List Nat} (h : U1 W b u) (ho : Only S W W') (hb : b ∉ S) : U1 W' b u := (ho.block b h.lt hb).trans h
theorem U1.other {W : World} {b b' : Nat} {u : Value} (h : U1 W b u) (hb : b ≠ b') (i : Nat) (v : Value) : U1 (W.setCell ⟨b', i, none⟩ v) b u := (Below.heap_setCell W _ v b hb).trans h
theorem I1.other {W : World} {b b' : Nat} {x : Int} (h : I1 W b x) (hb : b ≠ b') (i : Nat) (v : Value) : I1 (W.setCell ⟨b', i, none⟩ v) b x := (Below.heap_setCell W _ v b hb).trans h
theorem U1.set {W : World} {b : Nat} {u : Value} (h : U1 W b u) (v : Value) : U1 (W.setCell ⟨b, 0, none⟩ v) b v := by
 unfold U1 at *
 simp [World.setCell, Array.getElem?_modify, h]
theorem U1.new (W : World) (u : Value) : U1 (W.alloc (.cells #[u] 25)) W.heap.size u := by
 unfold U1
 show (W.heap.push _)[W.heap.size]? = _
 rw [Array.getElem?_push_size]
end Go.Proofs.YtgmdpppljkmabaaGreat
namespace Go.Proofs.YtgmdpppljkmabaaGreat
open Go.RowKit
/-! two colours: the reference -/
end Go.Proofs.YtgmdpppljkmabaaGreat
namespace Go.Proofs.YtgmdpppljkmabaaGreat
open Go.RowKit
/-! stubs, numbers of nodes, leaders: the reference -/
end Go.Proofs.YtgmdpppljkmabaaGreat
namespace Go.Proofs.YtgmdpppljkmabaaGreat
open Go.RowKit
end Go.Proofs.YtgmdpppljkmabaaGreat
namespace Go.Proofs.YtgmdpppljkmabaaGreat
open Go.RowKit
open Go.Maps (Keyed)
/-! the sizes of the components, in a map -/
def kI (p : Nat) : Lit := .int .i64 (p : Int)
def lI (z : Int) : DataW Unit := .lit (.int .i64 z)
theorem kI_inj {p q : Nat} (h : kI p = kI q) : p = q := by
 unfold kI at h
 injection h with _ h
 exact Int.ofNat.inj h
theorem kI_key (p : Nat) : WideAt.IsKeyLit (kI p) := trivial
structure SizeM (n : Net) (k : Nat) (D : DataW Unit) : Prop where
 map : Maps.IsMap D
 val : ∀ p : Nat, D.atKey (kI p) (lI 0) = lI (sizeTo n p k : Nat)
 keys : ∀ kl, Maps.has D kl = true → ∃ v, v < k ∧ kl = kI (leastB n v)
 all : ∀ v, v < k → Maps.has D (kI (leastB n v)) = true
theorem SizeM.zero (n : Net) : SizeM n 0 (.map []) where
 map := Maps.isMap_empty
 val := fun p => by simp [sizeTo, DataW.atKey]
 keys := fun kl h => by simp [Maps.has] at h
 all := fun v hv => by omega
theorem SizeM.put {n : Net} {k : Nat} {D : DataW Unit} (h : SizeM n k D) : SizeM n (k + 1) (D.put (kI (leastB n k)) (lI ((sizeTo n (leastB n k) k : Nat) + 1))) where
 map := h.map.put _ _
 val := fun p => by
  by_cases e : p = leastB n k
  ·subst e
   rw [Maps.atKey_put_same h.map (kI_key _), sizeTo_succ, if_pos rfl]
   simp
  ·rw [Maps.atKey_put_other (fun e2 => e (kI_inj e2)), h.val, sizeTo_succ, if_neg (fun e2 => e e2.symm)]
   simp
 keys := fun kl hk => by
  by_cases e : kl = kI (leastB n k)
  ·exact ⟨k, by omega, e⟩
  ·rw [Maps.has_put_other e] at hk
   obtain ⟨v, hv, e2⟩ := h.keys kl hk
   exact ⟨v, by omega, e2⟩
 all := fun v hv => by
  by_cases e : kI (leastB n v) = kI (leastB n k)
  ·rw [e]; exact Maps.has_put_same h.map (kI_key _) _
  ·rw [Maps.has_put_other e]
   exact h.all v (by
    apply Decidable.byContradiction
    intro hc
    exact e (by rw [show v = k by omega]))
end Go.Proofs.YtgmdpppljkmabaaGreat
namespace Go.Proofs.YtgmdpppljkmabaaGreat
open Go.RowKit
open Go.Maps (Keyed)
/-! the leaders of the components, in a map of rows -/
def slD : Value → Option (DataW Unit × List MemPlace)
 | .slice none n c => some (.slice [lI 0, lI n, lI c] [], [])
 | .slice (some ⟨b, 0, none⟩) n c => some (.slice [lI (b + 1), lI n, lI c] [], [])
 | _ => none
def zD : DataW Unit := .slice [lI 0, lI (0 : Nat), lI (0 : Nat)] []
theorem slD_nil : slD (.slice none 0 0) = some (zD, []) := rfl
structure LeadM (n : Net) (w : World) (B k kk : Nat) (D : DataW Unit) (U : Nat → Value) : Prop where
 map : Maps.IsMap D
 val : ∀ p : Nat, slD (U p) = some (D.atKey (kI p) zD, [])
 own : ∀ p : Nat, Own w B (U p) ((onesTo n p k).map Int.ofNat)
 dis : ∀ (p q j : Nat), p ≠ q → (U p).ownBlock = some j → (U q).ownBlock ≠ some j
 keys : ∀ kl, Maps.has D kl = true → ∃ v, v < kk ∧ kl = kI (leastB n v)
 all : ∀ v, v < kk → Maps.has D (kI (leastB n v)) = true
theorem LeadM.zero (n : Net) (w : World) (B : Nat) : LeadM n w B 0 0 (.map []) (fun _ => .slice none 0 0) where
 map := Maps.isMap_empty
 val := fun p => by rw [slD_nil]; simp [DataW.atKey]
 own := fun p => own_nil _ _
 dis := fun p q j _ h => by simp [Value.ownBlock] at h
 keys := fun kl h => by simp [Maps.has] at h
 all := fun v hv => by omega
theorem LeadM.range {n : Net} {w : World} {B k kk : Nat} {D : DataW Unit} {U : Nat → Value} (h : LeadM n w B k kk D U) {p j : Nat} (hj : (U p).ownBlock = some j) : B ≤ j ∧ j < w.heap.size := World.ownsRow.lt (h.own p) j hj
theorem LeadM.stable {n : Net} {w w' : World} {B k kk : Nat} {D : DataW Unit} {U : Nat → Value} (h : LeadM n w B k kk D U) (hs : ∀ j, B ≤ j → j < w.heap.size → w'.heap[j]? = w.heap[j]?) : LeadM n w' B k kk D U :=
 ⟨h.map, h.val, fun p => ownsRow_stable (h.own p) (fun j hj => by
  have := h.range (p := p) (j := j) (by simpa using hj)
  exact hs j this.1 this.2), h.dis, h.keys, h.all⟩
theorem has_ext {D : DataW Unit} (h : Maps.IsMap D) (n : Net) {k : Nat} (d : DataW Unit) (hk : ∀ kl, Maps.has D kl = true → ∃ v, v < k ∧ kl = kI (leastB n v)) (ha : ∀ v, v < k → Maps.has D (kI (leastB n v)) = true) :
  (∀ kl, Maps.has (D.put (kI (leastB n k)) d) kl = true → ∃ v, v < k + 1 ∧ kl = kI (leastB n v)) ∧ ∀ v, v < k + 1 → Maps.has (D.put (kI (leastB n k)) d) (kI (leastB n v)) = true := by
 constructor
 ·intro kl hkl
  by_cases e : kl = kI (leastB n k)
  ·exact ⟨k, by omega, e⟩
  ·rw [Maps.has_put_other e] at hkl
   obtain ⟨v, hv, e2⟩ := hk kl hkl
   exact ⟨v, by omega, e2⟩
 ·intro v hv
  by_cases e : kI (leastB n v) = kI (leastB n k)
  ·rw [e]; exact Maps.has_put_same h (kI_key _) _
  ·rw [Maps.has_put_other e]
   exact ha v (by
    apply Decidable.byContradiction
    intro hc
    exact e (by rw [show v = k by omega]))
theorem LeadM.lay {n : Net} {w : World} {B k : Nat} {D : DataW Unit} {U : Nat → Value} (h : LeadM n w B k k D U) : LeadM n w B k (k + 1) (D.put (kI (leastB n k)) (D.atKey (kI (leastB n k)) zD)) U :=
 ⟨h.map.put _ _, fun p => by
  by_cases e : p = leastB n k
  ·subst e
   rw [Maps.atKey_put_same h.map (kI_key _)]; exact h.val _
  ·rw [Maps.atKey_put_other (fun e2 => e (kI_inj e2))]; exact h.val _, h.own, h.dis, (has_ext h.map n _ h.keys h.all).1, (has_ext h.map n _ h.keys h.all).2⟩
theorem LeadM.skip {n : Net} {w : World} {B k kk : Nat} {D : DataW Unit} {U : Nat → Value} (h : LeadM n w B k kk D U) (hx : n.inputs.getD k 0 ≠ 1) : LeadM n w B (k + 1) kk D U :=
 ⟨h.map, h.val, fun p => by
  have : oneIn n p k = false := by unfold oneIn; rw [decide_eq_false hx, Bool.and_false]
  rw [(ownTo_skip this).1]; exact h.own p, h.dis, h.keys, h.all⟩
theorem LeadM.grow {n : Net} {w w' : World} {B k : Nat} {D : DataW Unit} {U : Nat → Value} {u : Value} {d : DataW Unit} {g : Nat} (h : LeadM n w B k (k + 1) D U) (hx : n.inputs.getD k 0 = 1) (ho : Own w' B u ((onesTo n (leastB n k) k).map Int.ofNat ++ [(k : Int)]))
  (hu : slD u = some (d, [])) (hub : u.ownBlock = some g) (hg : (U (leastB n k)).ownBlock = some g ∨ w.heap.size ≤ g) (hst : ∀ j, B ≤ j → j < w.heap.size → (U (leastB n k)).ownBlock ≠ some j → w'.heap[j]? = w.heap[j]?) :
  LeadM n w' B (k + 1) (k + 1) (D.put (kI (leastB n k)) d) (fun p => if p = leastB n k then u else U p) := by
 refine ⟨h.map.put _ _, fun p => ?_, fun p => ?_, fun p q j hpq hj => ?_, fun kl hkl => ?_, fun v hv => ?_⟩
 ·by_cases e : p = leastB n k
  ·subst e
   rw [if_pos rfl, Maps.atKey_put_same h.map (kI_key _)]; exact hu
  ·rw [if_neg e, Maps.atKey_put_other (fun e2 => e (kI_inj e2))]; exact h.val _
 ·by_cases e : p = leastB n k
  ·subst e
   have : oneIn n (leastB n k) k = true := by unfold oneIn; rw [decide_eq_true hx, decide_eq_true rfl]; rfl
   rw [if_pos rfl, onesTo_succ, if_pos this, List.map_append]; exact ho
  ·have : oneIn n p k = false := by unfold oneIn; rw [decide_eq_false (fun e2 => e e2.symm), Bool.false_and]
   rw [if_neg e, (ownTo_skip this).1]
   refine ownsRow_stable (h.own p) (fun j hj => ?_)
   have hj : (U p).ownBlock = some j := by simpa using hj
   have hr := h.range hj
   exact hst j hr.1 hr.2 (h.dis p _ j e hj)
 ·by_cases e : p = leastB n k
  ·rw [if_pos e, hub] at hj
   injection hj with hj
   subst hj
   rw [if_neg (fun e2 => hpq (e.trans e2.symm))]
   rcases hg with hg | hg
   ·exact h.dis (leastB n k) q g (fun e2 => hpq (e.trans e2)) hg
   ·intro hc
    have := (h.range hc).2
    omega
  ·rw [if_neg e] at hj
   by_cases e2 : q = leastB n k
   ·rw [if_pos e2, hub]
    intro hc
    injection hc with hc
    subst hc
    rcases hg with hg | hg
    ·exact h.dis p (leastB n k) g e hj hg
    ·have := (h.range hj).2
     omega
   ·rw [if_neg e2]; exact h.dis p q j hpq hj
 ·by_cases e : kl = kI (leastB n k)
  ·exact ⟨k, by omega, e⟩
  ·rw [Maps.has_put_other e] at hkl
   exact h.keys kl hkl
 ·by_cases e : kI (leastB n v) = kI (leastB n k)
  ·rw [e]; exact Maps.has_put_same h.map (kI_key _) _
  ·rw [Maps.has_put_other e]; exact h.all v hv
end Go.Proofs.YtgmdpppljkmabaaGreat
namespace Go.Proofs.YtgmdpppljkmabaaGreat
open Go.RowKit
theorem OwnRows.snoc {β : Type} {R : World → Nat → Value → β → List Nat → Prop} {e : TypeId} (L : RowLaw R) {w w' : World} {base g cap : Nat} {v u : Value} {xs : List β} {x : β} {S T : List Nat} (h : OwnRows e R w base v xs S) (hu : R w base u x T) (hd : ∀ j ∈ T, j ∉ S)
  (vs : List Value) (Ss : List (List Nat)) (h1 : w.ownsRow base e 1 v xs.length vs) (h2 : Ss.length = xs.length) (h3 : ∀ (k : Nat) u x T, vs[k]? = some u → xs[k]? = some x → Ss[k]? = some T → R w base u x T) (h4 : S = v.ownBlock.toList ++ Ss.flatten) (h5 : S.Nodup)
  (q1 : w'.ownsRow base e 1 (.slice (some ⟨g, 0, none⟩) (xs.length + 1) cap) (xs.length + 1) (vs ++ [u])) (q2 : w.grownBy w' v.ownBlock) (q3 : v.ownBlock = some g ∨ g = w.heap.size) :
  ∃ S', OwnRows e R w' base (.slice (some ⟨g, 0, none⟩) (xs.length + 1) cap) (xs ++ [x]) S' ∧ (∀ j ∈ S', j ∈ S ∨ j ∈ T ∨ j = w.heap.size) := by
 have hS := (rows_law e L).range h
 have hTr := L.range hu
 have hvl : vs.length = xs.length := by simpa using h1.1
 have h5' := h5
 rw [h4, List.nodup_append] at h5'
 have hin : ∀ j ∈ Ss.flatten, j ∈ S := fun j hj => by rw [h4]; exact List.mem_append_right _ hj
 have hon := Only.of_grown q2
 have hnv : ∀ j ∈ Ss.flatten, j ∉ v.ownBlock.toList := fun j hj hv => h5'.2.2 j hv j hj rfl
 have hTv : ∀ j ∈ T, j ∉ v.ownBlock.toList := fun j hj hv => hd j hj (by rw [h4]; exact List.mem_append_left _ hv)
 have hg : g ∉ Ss.flatten := fun hg => by
  rcases q3 with q3 | q3
  ·exact hnv g hg (by rw [q3]; simp)
  ·have := (hS g (hin g hg)).2; omega
 have hgT : g ∉ T := fun hg => by
  rcases q3 with q3 | q3
  ·exact hTv g hg (by rw [q3]; simp)
  ·have := (hTr g hg).2; omega
 refine ⟨[g] ++ (Ss ++ [T]).flatten, ⟨vs ++ [u], Ss ++ [T], ?_, by simp [h2], ?_, by simp [Value.ownBlock], ?_⟩, ?_⟩
 ·rw [List.length_append]; exact q1
 ·intro k u' x' T' hu' hx' hT'
  rcases Nat.lt_or_ge k xs.length with hk | hk
  ·rw [List.getElem?_append_left (by omega)] at hu' hx' hT'
   exact L.only (h3 k u' x' T' hu' hx' hT') hon (fun j hj => hnv j (List.mem_flatten.2 ⟨T', List.mem_of_getElem? hT', hj⟩))
  ·have hk1 : k = xs.length := by
    have := lt_of_get hx'
    simp at this; omega
   subst hk1
   rw [List.getElem?_append_right (Nat.le_refl _), Nat.sub_self] at hx'
   rw [← hvl, List.getElem?_append_right (Nat.le_refl _), Nat.sub_self] at hu'
   rw [← h2, List.getElem?_append_right (Nat.le_refl _), Nat.sub_self] at hT'
   simp at hu' hx' hT'
   subst hu' hx' hT'
   exact L.only hu hon hTv
 ·rw [List.flatten_append, List.nodup_append]
  refine ⟨by simp, ?_, ?_⟩
  ·rw [List.nodup_append]
   refine ⟨h5'.2.1, by simpa using L.nodup hu, ?_⟩
   intro a ha b hb e
   simp at hb
   subst e
   exact hd a hb (hin a ha)
  ·intro a ha b hb e
   simp at ha
   subst e ha
   rcases List.mem_append.1 hb with hb | hb
   ·exact hg hb
   ·simp at hb; exact hgT hb
 ·intro j hj
  rw [List.flatten_append] at hj
  rcases List.mem_append.1 hj with hj | hj
  ·simp at hj
   subst hj
   rcases q3 with q3 | q3
   ·left; rw [h4, q3]; simp
   ·exact .inr (.inr q3)
  ·rcases List.mem_append.1 hj with hj | hj
   ·exact .inl (hin j hj)
   ·simp at hj; exact .inr (.inl hj)
theorem ss_info : (Tryz.prog.info? 25).map (fun i => (i.zero, i.size, i.bytes)) = some (some (.slice none 0 0), 1, 24) := by kernel_rfl
theorem app_rowII {w : World} {ops : Array Oper} {rest : List Oper} {o : Oper} {a : Act} {Q : Exit → Act → World → Prop} (hgd : o.guard = none) (s x : Operand)
  (ho : o.op = .call { callee := .builtin .append, args := #[s, x], argTypes := #[30, 30] }) {base : Nat} {v u : Value} {xss : List (List Int)} {S : List Nat} {xs : List Int} (hs : a.eval s = v) (h : OwnII w base v xss S)
  (b : Nat) (hx : a.eval x = .slice (some ⟨b, 0, none⟩) 1 1) (hc : w.cell? ⟨b, 0, none⟩ = some u) (hu : Own w base u xs) (hd : ∀ j, u.ownBlock = some j → j ∉ S) (hl : xss.length + 1 ≤ 4000000) (hbs : base ≤ w.heap.size)
  (k : ∀ g cap w' S', OwnII w' base (.slice (some ⟨g, 0, none⟩) (xss.length + 1) cap) (xss ++ [xs]) S' → Below base w w' → wpList Tryz.prog ops Q rest (a.put o.dst (.slice (some ⟨g, 0, none⟩) (xss.length + 1) cap)) w') : wpList Tryz.prog ops Q (o :: rest) a w := by
 obtain ⟨i0, hi, hz0, hz1, hz2⟩ := info_parts ss_info
 have hvr := lawII.range h
 have h1b := h
 obtain ⟨vs, Ss, r1, r2, r3, r4, r5⟩ := h
 obtain ⟨A, m, c, rfl⟩ := lawI.one (S := u.ownBlock.toList) ⟨hu, rfl⟩
 refine wpList_append_lies w hgd s x 30 ho base 25 i0 _ 1 24 Tryz.underlying30 hi hz0 hz1 hz2 rfl (by decide) v xss.length vs hs r1 ⟨b, 0, none⟩ 1 1 [.slice A m c] hx rfl
  (by intro j u hj; match j, hj with | 0, hj => (simp at hj; subst hj; simpa [Addr.add] using hc) | j + 1, hj => simp at hj) (by simp [Value.oneCell']) (by omega) (by unfold maxLen; omega) (by omega) hbs w.heap.size rfl ?_
 intro g cap w' q1 q2 q3 q4
 obtain ⟨S', o1, -⟩ := OwnRows.snoc lawI h1b (T := (Value.slice A m c).ownBlock.toList) ⟨hu, rfl⟩ (fun j hj => hd j (by simpa using hj)) vs Ss r1 r2 r3 r4 r5 q1 q2 q3
 exact k g cap w' S' o1 (Below.grown (Below.refl base w |>.mono (Nat.le_refl _)) q2 hbs (fun q hq => (hvr q (by rw [r4, hq]; simp)).1))
end Go.Proofs.YtgmdpppljkmabaaGreat
namespace Go.Proofs.YtgmdpppljkmabaaGreat
open Go.RowKit
/-! rows of rows of bools; all ports are kept -/
def encB (b : Bool) : List Value := [.bool b]
theorem encB_flat (xs : List Bool) : xs.flatMap encB = xs.map Value.bool := by
 induction xs with
 | nil => rfl
 | cons x xs ih => rw [List.flatMap_cons, ih]; rfl
def OwnB : World → Nat → Value → List Bool → List Nat → Prop := LeafR 4 1 encB
def OwnBB : World → Nat → Value → List (List Bool) → List Nat → Prop := OwnRows 198 OwnB
theorem OwnB.row {w : World} {base : Nat} {v : Value} {xs : List Bool} {S : List Nat} (h : OwnB w base v xs S) : w.ownsRow base 4 1 v xs.length (xs.map Value.bool) := by
 have := h.1
 rwa [encB_flat] at this
theorem OwnB.mk {w : World} {base : Nat} {v : Value} {xs : List Bool} (h : w.ownsRow base 4 1 v xs.length (xs.map Value.bool)) : OwnB w base v xs v.ownBlock.toList := ⟨by rw [encB_flat]; exact h, rfl⟩
theorem OwnB.cell {w : World} {base g c n : Nat} {xs : List Bool} {S : List Nat} {k : Nat} {x : Bool} (h : OwnB w base (.slice (some ⟨g, 0, none⟩) n c) xs S) (hk : xs[k]? = some x) : w.cell? ⟨g, k, none⟩ = some (.bool x) := by
 have h' := h.row
 obtain rfl := ownsRow_len h'
 have hlt : k < xs.length := lt_of_get hk
 rw [World.ownsRow.cellAt h' k (by omega)]; simp [hk]
theorem OwnB.set {w : World} {base g c n : Nat} {xs : List Bool} {S : List Nat} (k : Nat) (x : Bool) (h : OwnB w base (.slice (some ⟨g, 0, none⟩) n c) xs S) : OwnB (w.setCell ⟨g, k, none⟩ (.bool x)) base (.slice (some ⟨g, 0, none⟩) n c) (xs.set k x) S := by
 have hS := h.2
 have h' := h.row
 obtain rfl := ownsRow_len h'
 have := (World.ownsRow.stored h' k (.bool x)).1
 refine ⟨?_, hS⟩
 rw [encB_flat, List.length_set, List.map_set]
 exact this
def BoolS (w : World) (v : Value) (xs : List Bool) : Prop :=
 ∃ (A : Option Addr) (c : Nat), v = .slice A xs.length c ∧ xs.length ≤ c ∧ c ≤ maxLen ∧ ∀ k x, xs[k]? = some x → ∃ b off, A = some ⟨b, off, none⟩ ∧ w.cell? ⟨b, off + k, none⟩ = some (.bool x)
def BoolSS (w : World) (v : Value) (xss : List (List Bool)) : Prop :=
 ∃ (A : Option Addr) (c : Nat), v = .slice A xss.length c ∧ xss.length ≤ c ∧ c ≤ maxLen ∧
  (∀ k xs, xss[k]? = some xs → ∃ b off u, A = some ⟨b, off, none⟩ ∧ w.cell? ⟨b, off + k, none⟩ = some u ∧ BoolS w u xs)
theorem BoolS.keep {w w' : World} {v : Value} {xs : List Bool} (h : BoolS w v xs) (hb : Below w.heap.size w w') : BoolS w' v xs := by
 obtain ⟨A, c, hv, hc, hm, hA⟩ := h
 refine ⟨A, c, hv, hc, hm, fun k x hk => ?_⟩
 obtain ⟨b, off, hA', h1⟩ := hA k x hk
 exact ⟨b, off, hA', bc hb h1⟩
theorem BoolSS.keep {w w' : World} {v : Value} {xs : List (List Bool)} (h : BoolSS w v xs) (hb : Below w.heap.size w w') : BoolSS w' v xs := by
 obtain ⟨A, c, hv, hc, hm, hA⟩ := h
 refine ⟨A, c, hv, hc, hm, fun k x hk => ?_⟩
 obtain ⟨b, off, u, hA', h1, h2⟩ := hA k x hk
 exact ⟨b, off, u, hA', bc hb h1, h2.keep hb⟩
theorem OwnB.read {w : World} {base : Nat} {v : Value} {xs : List Bool} {S : List Nat} (h : OwnB w base v xs S) : BoolS w v xs := by
 rcases ownsRow_cases h.row with ⟨rfl, h0⟩ | ⟨g, c, rfl, hb, hg, hc, hm⟩
 ·obtain rfl : xs = [] := List.eq_nil_of_length_eq_zero h0
  exact ⟨none, 0, rfl, Nat.le_refl _, Nat.zero_le _, fun k x hk => by simp at hk⟩
 ·exact ⟨_, c, rfl, hc, hm, fun k x hk => ⟨g, 0, rfl, by rw [Nat.zero_add]; exact h.cell hk⟩⟩
theorem OwnBB.read {w : World} {base : Nat} {v : Value} {ess : List (List Bool)} {S : List Nat} (h : OwnBB w base v ess S) : BoolSS w v ess := by
 obtain ⟨vs, Ss, h1, h2, h3, h4, h5⟩ := h
 rcases ownsRow_cases h1 with ⟨rfl, h0⟩ | ⟨g, c, rfl, hb, hg, hc, hm⟩
 ·obtain rfl : ess = [] := List.eq_nil_of_length_eq_zero h0
  exact ⟨none, 0, rfl, Nat.le_refl _, Nat.zero_le _, fun k x hk => by simp at hk⟩
 ·have hvl : vs.length = ess.length := by simpa using h1.1
  refine ⟨_, c, rfl, hc, hm, fun k x hk => ?_⟩
  have hlt := lt_of_get hk
  obtain ⟨u, hu⟩ := getx vs k (by omega)
  obtain ⟨T, hT⟩ := getx Ss k (by omega)
  exact ⟨g, 0, u, rfl, by rw [Nat.zero_add, h1.cellAt (cap := c) _ (by omega)]; exact hu, OwnB.read (h3 k u x T hu hk hT)⟩
section
variable {ops : Array Oper} {rest : List Oper} {o : Oper} {a : Act} {Q : Exit → Act → World → Prop}
end
end Go.Proofs.YtgmdpppljkmabaaGreat
namespace Go.Proofs.YtgmdpppljkmabaaGreat
open Go.RowKit
/-! two colours: the program -/
end Go.Proofs.YtgmdpppljkmabaaGreat
