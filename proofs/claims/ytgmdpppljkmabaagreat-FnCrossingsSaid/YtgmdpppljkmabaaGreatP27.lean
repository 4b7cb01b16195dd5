/- Parts of the proof: walks of functions and plain laws. -/
import Derived.Test.YtgmdpppljkmabaaGreatP0
import Derived.Test.YtgmdpppljkmabaaGreatP26
import Derived.Deep.CutBlock
namespace Go.Proofs.YtgmdpppljkmabaaGreat
open Go Go.RowKit
/-! the walk of FnCrossings -/
theorem cells4 {w : World} {v : Value} {a b c d : Int} (h : IntS w v [a, b, c, d]) : ∃ bl off cp, v = .slice (some ⟨bl, off, none⟩) 4 cp ∧ 4 ≤ cp ∧ cp ≤ maxLen ∧ w.cell? ⟨bl, off, none⟩ = some (.int .i64 a) ∧ w.cell? ⟨bl, off + 1, none⟩ = some (.int .i64 b) ∧ w.cell? ⟨bl, off + 2, none⟩ = some (.int .i64 c) ∧ w.cell? ⟨bl, off + 3, none⟩ = some (.int .i64 d) := by
 obtain ⟨A, cp, rfl, h1, h2, h3⟩ := h
 obtain ⟨bl, off, rfl, c0⟩ := h3 0 a rfl
 obtain ⟨_, _, e1, c1⟩ := h3 1 b rfl
 cases e1
 obtain ⟨_, _, e2, c2⟩ := h3 2 c rfl
 cases e2
 obtain ⟨_, _, e3, c3⟩ := h3 3 d rfl
 cases e3
 exact ⟨bl, off, cp, rfl, h1, h2, c0, c1, c2, c3⟩
def oNt (B : Nat) (n : Net) (i : Nat) (u : Value) (W : World) (lo hi : Nat) : Prop :=
 if i = 13 then ∃ ue ui un S, u = .tuple #[.agg #[ue, ui, un], .bool true] ∧ OwnNet W lo ue ui un n S ∧ (∀ j ∈ S, j < hi) ∧ B ≤ lo
 else ∃ b, u = .pointer (some ⟨b, 0, none⟩) ∧ BoxN W b (.slice none 0 0) (.slice none 0 0) (.slice none 0 0) ∧ lo ≤ b ∧ b < hi ∧ B ≤ lo
theorem oNt.keep {B : Nat} {n : Net} {i : Nat} {u : Value} {W W' : World} {lo hi : Nat} (h : oNt B n i u W lo hi) (hs : Since W W') : oNt B n i u W' lo hi := by
 unfold oNt at h ⊢
 by_cases e : i = 13
 ·rw [if_pos e] at h ⊢
  obtain ⟨ue, ui, un, S, h1, h2, h3, h4⟩ := h
  exact ⟨ue, ui, un, S, h1, h2.keep hs.below, h3, h4⟩
 ·rw [if_neg e] at h ⊢
  obtain ⟨b, h1, h2, h3⟩ := h
  exact ⟨b, h1, h2.since hs, h3⟩
theorem oNt_call {B : Nat} {n : Net} {ue ui un : Value} {S : List Nat} {W W' : World} (ho : OwnNet W' W.heap.size ue ui un n S) (hB : B ≤ W.heap.size) : oNt B n 13 (.tuple #[.agg #[ue, ui, un], .bool true]) W' W.heap.size W'.heap.size := by
 unfold oNt
 rw [if_pos rfl]
 exact ⟨ue, ui, un, S, rfl, ho, fun j hj => (ho.range j hj).2, hB⟩
def nilB : Obj := .cells #[.slice none 0 0, .slice none 0 0, .slice none 0 0] 27
theorem boxN_new (W : World) : BoxN (W.alloc nilB) W.heap.size (.slice none 0 0) (.slice none 0 0) (.slice none 0 0) := by
 show (W.heap.push _)[W.heap.size]? = _
 rw [Array.getElem?_push_size]
 rfl
theorem oNt_box {B : Nat} {n : Net} (W : World) (hB : B ≤ W.heap.size) : oNt B n 17 (.pointer (some ⟨W.heap.size, 0, none⟩)) (W.alloc nilB) W.heap.size (W.alloc nilB).heap.size := by
 unfold oNt
 rw [if_neg (by decide)]
 exact ⟨_, rfl, boxN_new W, Nat.le_refl _, by simp, hB⟩
def stN (p x : Value) (W : World) : World := match p, x with
 | .pointer (some a), .agg #[a0, a1, a2] => set3 W a.block a0 a1 a2
 | _, _ => W
theorem stN_eq (b : Nat) (a0 a1 a2 : Value) (W : World) : stN (.pointer (some ⟨b, 0, none⟩)) (.agg #[a0, a1, a2]) W = ((W.setCell ⟨b, 0, none⟩ a0).setCell ⟨b, 1, none⟩ a1).setCell ⟨b, 2, none⟩ a2 := rfl
theorem nt_stored {w0 W : World} {n : Net} {u v : Value} {l1 r1 l2 r2 : Nat} (hW : Since w0 W) (oc : oNt w0.heap.size n 13 u W l1 r1) (ob : oNt w0.heap.size n 17 v W l2 r2) (hd : r1 ≤ l2 ∨ r2 ≤ l1) :
  ∃ b X0 x0 X1 x1 X2 x2, v = .pointer (some ⟨b, 0, none⟩) ∧ u = .tuple #[.agg #[.slice X0 n.ends.length x0, .slice X1 n.ids.length x1, .slice X2 n.inputs.length x2], .bool true] ∧
   Since w0 (set3 W b (.slice X0 n.ends.length x0) (.slice X1 n.ids.length x1) (.slice X2 n.inputs.length x2)) ∧ NetIn (set3 W b (.slice X0 n.ends.length x0) (.slice X1 n.ids.length x1) (.slice X2 n.inputs.length x2)) (.slice X0 n.ends.length x0) (.slice X1 n.ids.length x1) (.slice X2 n.inputs.length x2) n ∧ Box3 (set3 W b (.slice X0 n.ends.length x0) (.slice X1 n.ids.length x1) (.slice X2 n.inputs.length x2)) b (.slice X0 n.ends.length x0) (.slice X1 n.ids.length x1) (.slice X2 n.inputs.length x2) := by
 unfold oNt at oc ob
 rw [if_pos rfl] at oc
 rw [if_neg (by decide)] at ob
 obtain ⟨ue, ui, un, S, h1, h2, h3, h4⟩ := oc
 obtain ⟨b, g1, g2, g3, g4, g5⟩ := ob
 obtain ⟨X0, x0, rfl, -, -, -⟩ := id h2.read.1
 obtain ⟨X1, x1, rfl, -, -, -⟩ := id h2.read.2.1
 obtain ⟨X2, x2, rfl, -, -, -⟩ := id h2.read.2.2
 have hb : b ∉ S := fun hj => by
  have e1 := (h2.range b hj).1
  have e2 := h3 b hj
  omega
 refine ⟨b, X0, x0, X1, x1, X2, x2, g1, h1, ?_, (h2.stable (fun k hk => set3_blk _ _ _ _ _ (fun e => hb (by have e' : k = b := e; exact e' ▸ hk)))).read, g2.box.set3 _ _ _⟩
 exact ((Below.setCell (Below.setCell (Below.setCell hW (p := ⟨b, 0, none⟩) (by show _ ≤ b; omega) _) (p := ⟨b, 1, none⟩) (by show _ ≤ b; omega) _) (p := ⟨b, 2, none⟩) (by show _ ≤ b; omega) _))
theorem isCross_true (ve vi vn vl : Value) (n : Net) (ls : List Int) (v i x j : Int) (w : World) (h : NetIn w ve vi vn n) (hl : IntS w vl ls) (hsz : n.ids.length ≤ 17592186044416) (hok : crossOk n ls v i x j = true) (hh : hidB n.ends ls (v, i) (x, j) = true) :
  Calls Tryz.prog 12 #[.agg #[ve, vi, vn], vl, .int .i64 v, .int .i64 i, .int .i64 x, .int .i64 j] w fun e w' => e = .returned (.tuple #[.bool true, .bool true]) ∧ Below w.heap.size w w' := by
 have h9 := implIsCrossable_any ve vi vn vl n ls v i x j w h hl hsz
 unfold crossRes at h9
 rw [hok, hh] at h9
 exact h9
theorem crossE_true (ve vi vn : Value) (n : Net) (v i x j : Int) (w : World) (h : NetIn w ve vi vn n) (b1 : -9223372036854775808 ≤ v ∧ v ≤ 9223372036854775807) (b2 : -9223372036854775808 ≤ i ∧ i ≤ 9223372036854775807) (b3 : -9223372036854775808 ≤ x ∧ x ≤ 9223372036854775807) (b4 : -9223372036854775808 ≤ j ∧ j ≤ 9223372036854775807) (hsz : szNet n ≤ 1048576) (hok : crossEOk n v i x j = true) :
  Calls Tryz.prog 13 #[.agg #[ve, vi, vn], .int .i64 v, .int .i64 i, .int .i64 x, .int .i64 j] w (NewNetB w (crossN n (v, i) (x, j)) true) := by
 have h9 := fnExactCrossEdges_impl ve vi vn n v i x j w h b1 b2 b3 b4 hsz
 rw [cross_d hok] at h9
 unfold fnExactCrossEdges_r1 at h9
 rw [hok] at h9
 exact h9
set_option maxRecDepth 100000 in
set_option maxHeartbeats 8000000 in
theorem fnCrossings_walk (w : World) (v1 : Value) (L1 : Nat) (h1 : ByS w v1 L1) (v2 : Value) (L2 : Nat) (h2 : ByS w v2 L2) :
  Calls Tryz.prog 3 #[v1, v2] w fun e w' => e = .returned (.bool true) ∧ Below w.heap.size w w' := by
 obtain ⟨A1, a1, hv1, hl1, hm1, -⟩ := id h1
 obtain ⟨A2, a2, hv2, hl2, hm2, -⟩ := id h2
 subst hv1 hv2
 unfold maxLen at hm1 hm2
 have H1 := Lib.hid h1
 have H2 := Lib.hid h2
 clear h1 h2
 go_enter Tryz.func3, Tryz.ntmps3
 go_wp2_with fail
 refine (big_any A1 A2 L1 a1 L2 a2 w (by omega) (by omega)).mono ?_
 rintro e wz ⟨rfl, rfl⟩
 cases hb : bigB L1 L2
 rotate_left
 ·go_wp2
  go_ret
  exact ⟨rfl, Below.refl _ _⟩
 have hL : L1 ≤ 1048576 ∧ L2 ≤ 1048576 := by
  unfold bigB at hb
  simp at hb
  omega
 go_wp2_with fail
 refine (drawCrossingsOf_any _ L1 w H1.out hL.1).mono ?_
 rintro e w1 ⟨ve, vi, vn, um, N, S, ls, rfl, ho, hbd, hol, hlb, hb1⟩
 obtain ⟨D0, d0, rfl, -, hdm0, -⟩ := id ho.read.1
 obtain ⟨D1, d1, rfl, -, -, -⟩ := id ho.read.2.1
 obtain ⟨D2, d2, rfl, -, -, -⟩ := id ho.read.2.2
 obtain ⟨AU, cU, rfl, -, -, -⟩ := id hol.ints
 obtain ⟨w2, hw2⟩ : ∃ z, z = w1.alloc (.cells #[.slice D0 N.ends.length d0, .slice D1 N.ids.length d1, .slice D2 N.inputs.length d2] 27) := ⟨_, rfl⟩
 obtain ⟨pb, hpb⟩ : ∃ z, z = w1.heap.size := ⟨_, rfl⟩
 have h12 : Since w1 w2 := by rw [hw2]; exact since_alloc _ (since_refl _)
 have hbx : Box3 w2 pb (.slice D0 N.ends.length d0) (.slice D1 N.ids.length d1) (.slice D2 N.inputs.length d2) := by rw [hw2, hpb]; exact Box3.new _ _ _ _ _
 have hN := ho.read.keep h12.below
 have hI := hol.ints.keep h12.below
 have HN := Lib.hid (show ∀ W, Since w2 W → NetIn W (.slice D0 N.ends.length d0) (.slice D1 N.ids.length d1) (.slice D2 N.inputs.length d2) N from fun W hW => hN.keep hW.below)
 have HI := Lib.hid (show ∀ W, Since w2 W → IntS W (.slice AU ls.length cU) ls from fun W hW => hI.keep hW.below)
 have HP0 := Lib.hid (have_cell hbx.cells.1)
 have HP1 := Lib.hid (have_cell hbx.cells.2.1)
 have HP2 := Lib.hid (have_cell hbx.cells.2.2.1)
 have Hww : Hid (Below w.heap.size w w2) := Below.trans hb1 (h12.below.mono hb1.size)
 have Hbd := Lib.hid hbd
 have Hlb := Lib.hid hlb
 have Hw2 := Lib.hid hw2
 have Hpb := Lib.hid hpb
 have hsz := hbd.small.sz
 have hli := hbd.ids
 have hbl : ls.length ≤ 1048576 := by have := hlb.1; omega
 have Hsz := Lib.hid hsz
 clear ho hbd hol hlb hb1 hw2 hpb h12 hbx hN hI hsz
 have hs2 : Since w2 w2 := since_refl _
 go_upto_region 4 with (fail)
 rw [← Hw2.out, ← Hpb.out]
 have p0 := HP0.out w2 hs2
 have p1 := HP1.out w2 hs2
 have p2 := HP2.out w2 hs2
 go_wp2_with fail
 refine (fnExactCrossingsOf_impl _ _ _ N _ ls w2 (HN.out w2 hs2) (HI.out w2 hs2) Hsz.out hbl).mono ?_
 rintro e w3 ⟨u3, S3, rfl, ho3, hb3⟩
 have hs3 : Since w2 w3 := hb3
 have hr3 := OwnII.read ho3
 obtain ⟨Q3, q3, rfl, hq3, hqm3, -⟩ := id hr3
 have HR3 := Lib.hid (show ∀ W, Since w3 W → IntSS W (.slice Q3 (fnExactCrossingsOf_d N ls).length q3) (fnExactCrossingsOf_d N ls) from fun W hW => hr3.keep hW.below)
 clear p0 p1 p2 ho3 hb3 hr3
 have p0 := HP0.out w3 hs3
 have p1 := HP1.out w3 hs3
 have p2 := HP2.out w3 hs3
 go_wp2_with fail
 refine (fnExactCrossingsOf_spec _ _ _ N _ ls w3 (HN.out w3 hs3) (HI.out w3 hs3) Hsz.out hbl).mono ?_
 rintro e w4 ⟨u4, rfl, hr4, hb4⟩
 have hs34 : Since w3 w4 := hb4
 have hs4 := hs3.after hs34
 obtain ⟨Q4, q4, rfl, hq4, hqm4, -⟩ := id hr4
 obtain ⟨RL, hRL⟩ : ∃ z, z = fnExactCrossingsOf_d N ls := ⟨_, rfl⟩
 obtain ⟨r1, hr1⟩ : ∃ z, z = fnExactCrossingsOf_r1 N ls := ⟨_, rfl⟩
 rw [← hRL] at HR3 hr4
 rw [← hRL, ← hr1]
 have HRL := Lib.hid hRL
 have HR4 := Lib.hid hr4
 have Hs34 := Lib.hid hs34
 have Hs4 := Lib.hid hs4
 unfold maxLen at hqm3
 rw [← hRL] at hq3
 clear p0 p1 p2 hb4 hr4 hRL hr1 hs3 hs34 hq4 hqm4 hs2
 go_upto_region 6 with (fail)
 refine wp_region_flow0 9 (Since w4) (since_refl _) ?_
 simp only [List.take_succ_cons, List.take_zero, List.drop_succ_cons, List.drop_zero]
 refine flow_val (v := ?_) rfl ?_ ?_; rotate_left; (intro W hW; go_simp; with_reducible rfl)
 simp only [zA]
 refine flow_val (v := ?_) rfl ?_ ?_; rotate_left; (intro W hW; go_simp; with_reducible rfl)
 simp only [zA]
 refine flow_val (v := ?_) rfl ?_ ?_; rotate_left; (intro W hW; go_simp; with_reducible rfl)
 simp only [zA]
 refine flow_val (v := ?_) rfl ?_ ?_; rotate_left; (intro W hW; go_simp; with_reducible rfl)
 simp only [zA]
 refine flow_gval (v := ?_) rfl rfl ?_ ?_; rotate_left; (intro hb; intro W hW; go_simp; with_reducible rfl)
 simp only [zA]
 refine flow_gval (v := ?_) rfl rfl ?_ ?_; rotate_left; (intro hb; intro W hW; go_simp; with_reducible rfl)
 simp only [zA]
 refine flow_gop (v := ?_) rfl rfl ?_ ?_; rotate_left; (intro hb; intro W hW; unfold Gives; go_simp; (with_reducible refine (sameLists_same _ _ RL W (HR3.out W (Hs34.out.after hW)) (HR4.out.keep hW.below)).mono ?_); rintro e W' ⟨rfl, hb3⟩; first | (refine ⟨?_, Since.trans hW hb3⟩; with_reducible rfl) | (subst hb3; refine ⟨?_, hW⟩; with_reducible rfl))
 simp only [zA]
 refine flow_gval (v := ?_) rfl rfl ?_ ?_; rotate_left; (intro hb; intro W hW; go_simp; with_reducible rfl)
 simp only [zA]
 first | refine flow_or rfl rfl ?_ | (refine flow_val (v := ?_) rfl ?_ ?_; rotate_left; (intro W hW; go_simp; with_reducible rfl))
 simp only [zA]
 intro W5 hW5
 simp only [gv, reduceIte, Bool.or_self]
 have hs5 := Hs4.out.after hW5
 have Hs35 := Lib.hid (Hs34.out.after hW5)
 clear hs4 hW5
 go_upto_block 0 with (fail)
 go_cut [] from 11 to 174 (fun wx => Since w2 wx)
 case first =>
  go_upto_region 9 with (fail)
  go_loopw [68] (fun i wr => ∃ k : Nat, k ≤ RL.length ∧ i = .int .i64 k ∧ Since w2 wr ∧ Since w3 wr) (fun i _ => RL.length - (intOf i).toNat)
  case atStart => exact ⟨0, Nat.zero_le _, rfl, hs5, Hs35.out⟩
  case round =>
   obtain ⟨k, hk, rfl, hsr, hsr3⟩ := hrel
   have Hsr := Lib.hid hsr
   have Hsr3 := Lib.hid hsr3
   clear hs5 hsr hsr3
   by_cases hlt : k < RL.length
   ·have m3 : IntKind.i64.wrap ((k : Int) + 1) = (k : Int) + 1 := wr64 _ (by omega) (by omega)
    obtain ⟨r, hr⟩ := getx RL k hlt
    obtain ⟨nu, ni, nx, hre, hub, hib, hxb, hok, hhid, hHX⟩ := cx_row (n := N) (ls := ls) (by rw [← HRL.out]; exact hr)
    subst hre
    obtain ⟨Aq, cq, eq, -, -, hA⟩ := HR3.out wr Hsr3.out
    cases eq
    obtain ⟨bq, oq, uq, hAq, hcq, hiq⟩ := hA k _ hr
    subst hAq
    obtain ⟨bl, off, cp, rfl, hcp, hcpm, g0, g1, g2, g3⟩ := cells4 hiq
    have G0 := have_cell g0
    have G1 := have_cell g1
    have G2 := have_cell g2
    have G3 := have_cell g3
    have Hok := Lib.hid hok
    have Hhid := Lib.hid hhid
    have HHX := Lib.hid hHX
    unfold maxLen at hcpm
    clear hA hiq hr g0 g1 g2 g3 hok hhid hHX
    by_cases hk3 : 3 < k
    ·have e0 : ((3 : Int) < (k : Int)) = True := by simp; omega
     go_wp2_with fail
     go_meet
     case rel => exact Hsr.out
    ·have e0 : ((3 : Int) < (k : Int)) = False := by simp; omega
     have bu : -9223372036854775808 ≤ (nu : Int) ∧ (nu : Int) ≤ 9223372036854775807 := by omega
     have bi : -9223372036854775808 ≤ (ni : Int) ∧ (ni : Int) ≤ 9223372036854775807 := by omega
     have bx : -9223372036854775808 ≤ (nx : Int) ∧ (nx : Int) ≤ 9223372036854775807 := by omega
     have HE1 := Lib.hid HHX.out.toMayX.iff
     have HE2 := Lib.hid HHX.out.toMayX.again.iff
     have Hsz2 := Lib.hid (netOk_sz HHX.out.toMayX.ok2 (show N.ids.length ≤ 200 from hli))
     have z0 := fun W (hW : Since wr W) => HP0.out W (Hsr.out.after hW)
     have z1 := fun W (hW : Since wr W) => HP1.out W (Hsr.out.after hW)
     have z2 := fun W (hW : Since wr W) => HP2.out W (Hsr.out.after hW)
     have hz : Since wr wr := since_refl _
     have HG := Lib.hid (And.intro G0 (And.intro G1 (And.intro G2 G3)))
     have HZ := Lib.hid (And.intro z0 (And.intro z1 z2))
     go_upto_region 12 with (fail)
     refine wp_region_dfl (w0 := wr) [fun V W => V 0 = .agg #[.slice D0 N.ends.length d0, .slice D1 N.ids.length d1, .slice D2 N.inputs.length d2], fun V W => V 1 = .slice AU ls.length cU, fun V W => V 2 = .slice (some ⟨bl, off, none⟩) 4 cp, fun V W => V 3 = .pointer (some ⟨bl, off, none⟩), fun V W => V 4 = .int .i64 (nu : Int), fun V W => V 5 = .slice (some ⟨bl, off, none⟩) 4 cp, fun V W => V 6 = .pointer (some ⟨bl, off + 1, none⟩), fun V W => V 7 = .int .i64 (ni : Int), fun V W => V 8 = .slice (some ⟨bl, off, none⟩) 4 cp, fun V W => V 9 = .pointer (some ⟨bl, off + 2, none⟩), fun V W => V 10 = .int .i64 (nx : Int), fun V W => V 11 = .slice (some ⟨bl, off, none⟩) 4 cp, fun V W => V 12 = .pointer (some ⟨bl, off + 3, none⟩), fun V W => V 13 = .int .i64 (ni : Int), fun V W => V 14 = .tuple #[.bool true, .bool true], fun V W => V 15 = .tuple #[.bool true, .bool true], fun V W => V 16 = .bool true, fun V W => V 17 = .bool true, fun V W => V 18 = .bool true, fun V W => V 19 = .bool true] ?_ ?_ 20 (by kernel_rfl) (by kernel_rfl) (by kernel_rfl) (since_refl _) ?_ ?_
     ·intro r hr V W W' h hs
      simp only [List.mem_cons, List.not_mem_nil, or_false] at hr
      rcases hr with rfl | rfl | rfl | rfl | rfl | rfl | rfl | rfl | rfl | rfl | rfl | rfl | rfl | rfl | rfl | rfl | rfl | rfl | rfl | rfl
      ·exact h
      ·exact h
      ·exact h
      ·exact h
      ·exact h
      ·exact h
      ·exact h
      ·exact h
      ·exact h
      ·exact h
      ·exact h
      ·exact h
      ·exact h
      ·exact h
      ·exact (h)
      ·exact h
      ·exact h
      ·exact h
      ·exact h
      ·exact h
     ·intro j r hj V V' W h1 h2 h
      match j, hj with
      | 0, hj =>
       obtain rfl := Option.some.inj hj
       have h3 : V 0 = .agg #[.slice D0 N.ends.length d0, .slice D1 N.ids.length d1, .slice D2 N.inputs.length d2] := h
       show V' 0 = .agg #[.slice D0 N.ends.length d0, .slice D1 N.ids.length d1, .slice D2 N.inputs.length d2]
       rw [← h1]
       exact h3
      | 1, hj =>
       obtain rfl := Option.some.inj hj
       have h3 : V 1 = .slice AU ls.length cU := h
       show V' 1 = .slice AU ls.length cU
       rw [← h1]
       exact h3
      | 2, hj =>
       obtain rfl := Option.some.inj hj
       have h3 : V 2 = .slice (some ⟨bl, off, none⟩) 4 cp := h
       show V' 2 = .slice (some ⟨bl, off, none⟩) 4 cp
       rw [← h1]
       exact h3
      | 3, hj =>
       obtain rfl := Option.some.inj hj
       have h3 : V 3 = .pointer (some ⟨bl, off, none⟩) := h
       show V' 3 = .pointer (some ⟨bl, off, none⟩)
       rw [← h1]
       exact h3
      | 4, hj =>
       obtain rfl := Option.some.inj hj
       have h3 : V 4 = .int .i64 (nu : Int) := h
       show V' 4 = .int .i64 (nu : Int)
       rw [← h1]
       exact h3
      | 5, hj =>
       obtain rfl := Option.some.inj hj
       have h3 : V 5 = .slice (some ⟨bl, off, none⟩) 4 cp := h
       show V' 5 = .slice (some ⟨bl, off, none⟩) 4 cp
       rw [← h1]
       exact h3
      | 6, hj =>
       obtain rfl := Option.some.inj hj
       have h3 : V 6 = .pointer (some ⟨bl, off + 1, none⟩) := h
       show V' 6 = .pointer (some ⟨bl, off + 1, none⟩)
       rw [← h1]
       exact h3
      | 7, hj =>
       obtain rfl := Option.some.inj hj
       have h3 : V 7 = .int .i64 (ni : Int) := h
       show V' 7 = .int .i64 (ni : Int)
       rw [← h1]
       exact h3
      | 8, hj =>
       obtain rfl := Option.some.inj hj
       have h3 : V 8 = .slice (some ⟨bl, off, none⟩) 4 cp := h
       show V' 8 = .slice (some ⟨bl, off, none⟩) 4 cp
       rw [← h1]
       exact h3
      | 9, hj =>
       obtain rfl := Option.some.inj hj
       have h3 : V 9 = .pointer (some ⟨bl, off + 2, none⟩) := h
       show V' 9 = .pointer (some ⟨bl, off + 2, none⟩)
       rw [← h1]
       exact h3
      | 10, hj =>
       obtain rfl := Option.some.inj hj
       have h3 : V 10 = .int .i64 (nx : Int) := h
       show V' 10 = .int .i64 (nx : Int)
       rw [← h1]
       exact h3
      | 11, hj =>
       obtain rfl := Option.some.inj hj
       have h3 : V 11 = .slice (some ⟨bl, off, none⟩) 4 cp := h
       show V' 11 = .slice (some ⟨bl, off, none⟩) 4 cp
       rw [← h1]
       exact h3
      | 12, hj =>
       obtain rfl := Option.some.inj hj
       have h3 : V 12 = .pointer (some ⟨bl, off + 3, none⟩) := h
       show V' 12 = .pointer (some ⟨bl, off + 3, none⟩)
       rw [← h1]
       exact h3
      | 13, hj =>
       obtain rfl := Option.some.inj hj
       have h3 : V 13 = .int .i64 (ni : Int) := h
       show V' 13 = .int .i64 (ni : Int)
       rw [← h1]
       exact h3
      | 14, hj =>
       obtain rfl := Option.some.inj hj
       have h3 : V 14 = .tuple #[.bool true, .bool true] := h
       show V' 14 = .tuple #[.bool true, .bool true]
       rw [← h1]
       exact h3
      | 15, hj =>
       obtain rfl := Option.some.inj hj
       have h3 : V 15 = .tuple #[.bool true, .bool true] := h
       show V' 15 = .tuple #[.bool true, .bool true]
       rw [← h1]
       exact h3
      | 16, hj =>
       obtain rfl := Option.some.inj hj
       have h3 : V 16 = .bool true := h
       show V' 16 = .bool true
       rw [← h1]
       exact h3
      | 17, hj =>
       obtain rfl := Option.some.inj hj
       have h3 : V 17 = .bool true := h
       show V' 17 = .bool true
       rw [← h1]
       exact h3
      | 18, hj =>
       obtain rfl := Option.some.inj hj
       have h3 : V 18 = .bool true := h
       show V' 18 = .bool true
       rw [← h1]
       exact h3
      | 19, hj =>
       obtain rfl := Option.some.inj hj
       have h3 : V 19 = .bool true := h
       show V' 19 = .bool true
       rw [← h1]
       exact h3
      | j + 20, hj => simp at hj
     ·intro i o hi ho V W hW hd
      match i, ho with
      | 0, ho =>
       cases ho
       clear hd hi
       refine ⟨rfl, ?_⟩
       simp only [putAll, zR20, List.getElem?_toArray, List.getElem?_cons_succ, List.getElem?_cons_zero]
       (try simp only [zA])
       refine dstep_val (u := .agg #[.slice D0 N.ends.length d0, .slice D1 N.ids.length d1, .slice D2 N.inputs.length d2]) (W' := W) (by go_simp) ⟨since_refl _, ?_⟩
       exact upd_self V 0 _
      | 1, ho =>
       cases ho
       clear hd hi
       refine ⟨rfl, ?_⟩
       simp only [putAll, zR20, List.getElem?_toArray, List.getElem?_cons_succ, List.getElem?_cons_zero]
       (try simp only [zA])
       refine dstep_val (u := .slice AU ls.length cU) (W' := W) (by go_simp) ⟨since_refl _, ?_⟩
       exact upd_self V 1 _
      | 2, ho =>
       cases ho
       clear hd hi
       refine ⟨rfl, ?_⟩
       simp only [putAll, zR20, List.getElem?_toArray, List.getElem?_cons_succ, List.getElem?_cons_zero]
       (try simp only [zA])
       refine dstep_val (u := .slice (some ⟨bl, off, none⟩) 4 cp) (W' := W) (by go_simp) ⟨since_refl _, ?_⟩
       exact upd_self V 2 _
      | 3, ho =>
       cases ho
       have e2 : V 2 = .slice (some ⟨bl, off, none⟩) 4 cp := hd 2 (by decide +kernel)
       clear hd hi
       refine ⟨rfl, ?_⟩
       simp only [putAll, zR20, List.getElem?_toArray, List.getElem?_cons_succ, List.getElem?_cons_zero]
       (try simp only [zA])
       refine dstep_val (u := .pointer (some ⟨bl, off, none⟩)) (W' := W) (by go_simp) ⟨since_refl _, ?_⟩
       exact upd_self V 3 _
      | 4, ho =>
       cases ho
       have e3 : V 3 = .pointer (some ⟨bl, off, none⟩) := hd 3 (by decide +kernel)
       clear hd hi
       refine ⟨rfl, ?_⟩
       simp only [putAll, zR20, List.getElem?_toArray, List.getElem?_cons_succ, List.getElem?_cons_zero]
       (try simp only [zA])
       refine dstep_val (u := .int .i64 (nu : Int)) (W' := W) (by go_simp) ⟨since_refl _, ?_⟩
       exact upd_self V 4 _
      | 5, ho =>
       cases ho
       clear hd hi
       refine ⟨rfl, ?_⟩
       simp only [putAll, zR20, List.getElem?_toArray, List.getElem?_cons_succ, List.getElem?_cons_zero]
       (try simp only [zA])
       refine dstep_val (u := .slice (some ⟨bl, off, none⟩) 4 cp) (W' := W) (by go_simp) ⟨since_refl _, ?_⟩
       exact upd_self V 5 _
      | 6, ho =>
       cases ho
       have e5 : V 5 = .slice (some ⟨bl, off, none⟩) 4 cp := hd 5 (by decide +kernel)
       clear hd hi
       refine ⟨rfl, ?_⟩
       simp only [putAll, zR20, List.getElem?_toArray, List.getElem?_cons_succ, List.getElem?_cons_zero]
       (try simp only [zA])
       refine dstep_val (u := .pointer (some ⟨bl, off + 1, none⟩)) (W' := W) (by go_simp) ⟨since_refl _, ?_⟩
       exact upd_self V 6 _
      | 7, ho =>
       cases ho
       have e6 : V 6 = .pointer (some ⟨bl, off + 1, none⟩) := hd 6 (by decide +kernel)
       clear hd hi
       refine ⟨rfl, ?_⟩
       simp only [putAll, zR20, List.getElem?_toArray, List.getElem?_cons_succ, List.getElem?_cons_zero]
       (try simp only [zA])
       refine dstep_val (u := .int .i64 (ni : Int)) (W' := W) (by go_simp) ⟨since_refl _, ?_⟩
       exact upd_self V 7 _
      | 8, ho =>
       cases ho
       clear hd hi
       refine ⟨rfl, ?_⟩
       simp only [putAll, zR20, List.getElem?_toArray, List.getElem?_cons_succ, List.getElem?_cons_zero]
       (try simp only [zA])
       refine dstep_val (u := .slice (some ⟨bl, off, none⟩) 4 cp) (W' := W) (by go_simp) ⟨since_refl _, ?_⟩
       exact upd_self V 8 _
      | 9, ho =>
       cases ho
       have e8 : V 8 = .slice (some ⟨bl, off, none⟩) 4 cp := hd 8 (by decide +kernel)
       clear hd hi
       refine ⟨rfl, ?_⟩
       simp only [putAll, zR20, List.getElem?_toArray, List.getElem?_cons_succ, List.getElem?_cons_zero]
       (try simp only [zA])
       refine dstep_val (u := .pointer (some ⟨bl, off + 2, none⟩)) (W' := W) (by go_simp) ⟨since_refl _, ?_⟩
       exact upd_self V 9 _
      | 10, ho =>
       cases ho
       have e9 : V 9 = .pointer (some ⟨bl, off + 2, none⟩) := hd 9 (by decide +kernel)
       clear hd hi
       refine ⟨rfl, ?_⟩
       simp only [putAll, zR20, List.getElem?_toArray, List.getElem?_cons_succ, List.getElem?_cons_zero]
       (try simp only [zA])
       refine dstep_val (u := .int .i64 (nx : Int)) (W' := W) (by go_simp) ⟨since_refl _, ?_⟩
       exact upd_self V 10 _
      | 11, ho =>
       cases ho
       clear hd hi
       refine ⟨rfl, ?_⟩
       simp only [putAll, zR20, List.getElem?_toArray, List.getElem?_cons_succ, List.getElem?_cons_zero]
       (try simp only [zA])
       refine dstep_val (u := .slice (some ⟨bl, off, none⟩) 4 cp) (W' := W) (by go_simp) ⟨since_refl _, ?_⟩
       exact upd_self V 11 _
      | 12, ho =>
       cases ho
       have e11 : V 11 = .slice (some ⟨bl, off, none⟩) 4 cp := hd 11 (by decide +kernel)
       clear hd hi
       refine ⟨rfl, ?_⟩
       simp only [putAll, zR20, List.getElem?_toArray, List.getElem?_cons_succ, List.getElem?_cons_zero]
       (try simp only [zA])
       refine dstep_val (u := .pointer (some ⟨bl, off + 3, none⟩)) (W' := W) (by go_simp) ⟨since_refl _, ?_⟩
       exact upd_self V 12 _
      | 13, ho =>
       cases ho
       have e12 : V 12 = .pointer (some ⟨bl, off + 3, none⟩) := hd 12 (by decide +kernel)
       clear hd hi
       refine ⟨rfl, ?_⟩
       simp only [putAll, zR20, List.getElem?_toArray, List.getElem?_cons_succ, List.getElem?_cons_zero]
       (try simp only [zA])
       refine dstep_val (u := .int .i64 (ni : Int)) (W' := W) (by go_simp) ⟨since_refl _, ?_⟩
       exact upd_self V 13 _
      | 14, ho =>
       cases ho
       have e0 : V 0 = .agg #[.slice D0 N.ends.length d0, .slice D1 N.ids.length d1, .slice D2 N.inputs.length d2] := hd 0 (by decide +kernel)
       have e1 : V 1 = .slice AU ls.length cU := hd 1 (by decide +kernel)
       have e4 : V 4 = .int .i64 (nu : Int) := hd 4 (by decide +kernel)
       have e7 : V 7 = .int .i64 (ni : Int) := hd 7 (by decide +kernel)
       have e10 : V 10 = .int .i64 (nx : Int) := hd 10 (by decide +kernel)
       have e13 : V 13 = .int .i64 (ni : Int) := hd 13 (by decide +kernel)
       clear hd hi
       refine ⟨rfl, ?_⟩
       simp only [putAll, zR20, List.getElem?_toArray, List.getElem?_cons_succ, List.getElem?_cons_zero]
       (try simp only [zA])
       refine dstep_call (f := 12) (args := #[.agg #[.slice D0 N.ends.length d0, .slice D1 N.ids.length d1, .slice D2 N.inputs.length d2], .slice AU ls.length cU, .int .i64 (nu : Int), .int .i64 (ni : Int), .int .i64 (nx : Int), .int .i64 (ni : Int)]) (W' := W) (by go_simp) ?_
       refine (isCross_true _ _ _ _ N ls nu ni nx ni W (HN.out W (Hsr.out.after hW)) (HI.out W (Hsr.out.after hW)) (by omega) Hok.out Hhid.out).mono ?_
       rintro e W' ⟨rfl, hb⟩
       exact ⟨_, rfl, hb, upd_self V 14 _⟩
      | 15, ho =>
       cases ho
       have e14 : V 14 = .tuple #[.bool true, .bool true] := hd 14 (by decide +kernel)
       clear hd hi
       refine ⟨rfl, ?_⟩
       simp only [putAll, zR20, List.getElem?_toArray, List.getElem?_cons_succ, List.getElem?_cons_zero]
       (try simp only [zA])
       refine dstep_val (u := .tuple #[.bool true, .bool true]) (W' := W) (by go_simp) ⟨since_refl _, ?_⟩
       exact upd_self V 15 _
      | 16, ho =>
       cases ho
       have e15 : V 15 = .tuple #[.bool true, .bool true] := hd 15 (by decide +kernel)
       clear hd hi
       refine ⟨rfl, ?_⟩
       simp only [putAll, zR20, List.getElem?_toArray, List.getElem?_cons_succ, List.getElem?_cons_zero]
       (try simp only [zA])
       refine dstep_val (u := .bool true) (W' := W) (by go_simp) ⟨since_refl _, ?_⟩
       exact upd_self V 16 _
      | 17, ho =>
       cases ho
       have e15 : V 15 = .tuple #[.bool true, .bool true] := hd 15 (by decide +kernel)
       clear hd hi
       refine ⟨rfl, ?_⟩
       simp only [putAll, zR20, List.getElem?_toArray, List.getElem?_cons_succ, List.getElem?_cons_zero]
       (try simp only [zA])
       refine dstep_val (u := .bool true) (W' := W) (by go_simp) ⟨since_refl _, ?_⟩
       exact upd_self V 17 _
      | 18, ho =>
       cases ho
       have e16 : V 16 = .bool true := hd 16 (by decide +kernel)
       clear hd hi
       refine ⟨rfl, ?_⟩
       simp only [putAll, zR20, List.getElem?_toArray, List.getElem?_cons_succ, List.getElem?_cons_zero]
       (try simp only [zA])
       refine dstep_val (u := .bool true) (W' := W) (by go_simp) ⟨since_refl _, ?_⟩
       exact upd_self V 18 _
      | 19, ho =>
       cases ho
       have e17 : V 17 = .bool true := hd 17 (by decide +kernel)
       clear hd hi
       refine ⟨rfl, ?_⟩
       simp only [putAll, zR20, List.getElem?_toArray, List.getElem?_cons_succ, List.getElem?_cons_zero]
       (try simp only [zA])
       refine dstep_val (u := .bool true) (W' := W) (by go_simp) ⟨since_refl _, ?_⟩
       exact upd_self V 19 _
      | i + 20, ho => omega
     intro V W hW hV
     have e0 : V 0 = .agg #[.slice D0 N.ends.length d0, .slice D1 N.ids.length d1, .slice D2 N.inputs.length d2] := hV 0 (by decide)
     have e1 : V 1 = .slice AU ls.length cU := hV 1 (by decide)
     have e2 : V 2 = .slice (some ⟨bl, off, none⟩) 4 cp := hV 2 (by decide)
     have e3 : V 3 = .pointer (some ⟨bl, off, none⟩) := hV 3 (by decide)
     have e4 : V 4 = .int .i64 (nu : Int) := hV 4 (by decide)
     have e5 : V 5 = .slice (some ⟨bl, off, none⟩) 4 cp := hV 5 (by decide)
     have e6 : V 6 = .pointer (some ⟨bl, off + 1, none⟩) := hV 6 (by decide)
     have e7 : V 7 = .int .i64 (ni : Int) := hV 7 (by decide)
     have e8 : V 8 = .slice (some ⟨bl, off, none⟩) 4 cp := hV 8 (by decide)
     have e9 : V 9 = .pointer (some ⟨bl, off + 2, none⟩) := hV 9 (by decide)
     have e10 : V 10 = .int .i64 (nx : Int) := hV 10 (by decide)
     have e11 : V 11 = .slice (some ⟨bl, off, none⟩) 4 cp := hV 11 (by decide)
     have e12 : V 12 = .pointer (some ⟨bl, off + 3, none⟩) := hV 12 (by decide)
     have e13 : V 13 = .int .i64 (ni : Int) := hV 13 (by decide)
     have e14 : V 14 = .tuple #[.bool true, .bool true] := hV 14 (by decide)
     have e15 : V 15 = .tuple #[.bool true, .bool true] := hV 15 (by decide)
     have e16 : V 16 = .bool true := hV 16 (by decide)
     have e17 : V 17 = .bool true := hV 17 (by decide)
     have e18 : V 18 = .bool true := hV 18 (by decide)
     have e19 : V 19 = .bool true := hV 19 (by decide)
     clear hV
     simp only [putAll, zR20, List.getElem?_toArray, List.getElem?_cons_succ, List.getElem?_cons_zero]
     (try simp only [zA])
     simp only [List.drop_succ_cons, List.drop_zero]
     have HW6 : Hid (Since wr W) := hW
     obtain ⟨w6, rfl⟩ : ∃ z, z = W := ⟨_, rfl⟩
     rw [e0, e1, e2, e3, e4, e5, e6, e7, e8, e9, e10, e11, e12, e13, e14, e15, e16, e17, e18, e19]
     clear e1 e2 e3 e4 e5 e6 e7 e8 e9 e10 e11 e12 e13 e14 e15 e16 e17 e18 e19
     simp only [wpList]
     clear hW hz z0 z1 z2 G0 G1 G2 G3
     have y0 := fun W (hW : Since w6 W) => HZ.out.1 W (HW6.out.after hW)
     have y1 := fun W (hW : Since w6 W) => HZ.out.2.1 W (HW6.out.after hW)
     have y2 := fun W (hW : Since w6 W) => HZ.out.2.2 W (HW6.out.after hW)
     have K0 := fun W (hW : Since w6 W) => HG.out.1 W (HW6.out.after hW)
     have K1 := fun W (hW : Since w6 W) => HG.out.2.1 W (HW6.out.after hW)
     have K2 := fun W (hW : Since w6 W) => HG.out.2.2.1 W (HW6.out.after hW)
     have K3 := fun W (hW : Since w6 W) => HG.out.2.2.2 W (HW6.out.after hW)
     have hz : Since w6 w6 := since_refl _
     have HNAs := Lib.hid (show ∃ z, z = crossN N ((nu : Int), (ni : Int)) ((nx : Int), (ni : Int)) from ⟨_, rfl⟩)
     obtain ⟨NA, hNA⟩ := HNAs.out
     have HcE := Lib.hid (show ∀ W, Since w6 W → Calls Tryz.prog 13 #[.agg #[.slice D0 N.ends.length d0, .slice D1 N.ids.length d1, .slice D2 N.inputs.length d2], .int .i64 (nu : Int), .int .i64 (ni : Int), .int .i64 (nx : Int), .int .i64 (ni : Int)] W (NewNetB W NA true) from fun W hW => by rw [hNA]; exact crossE_true _ _ _ N nu ni nx ni W (HN.out W ((Hsr.out.after HW6.out).after hW)) bu bi bx bi Hsz.out HE1.out)
     rw [← hNA] at HE2 Hsz2
     have HNA := Lib.hid hNA
     clear hNA HNAs
     go_upto_region 13 with (fail)
     have hO : ∀ (i : Nat) (u : Value) (W W' : World) (lo hi : Nat), (oNt w6.heap.size NA) i u W lo hi → Since W W' → (oNt w6.heap.size NA) i u W' lo hi := fun i u W W' lo hi h hs => oNt.keep h hs
     refine wp_region_dstl (w0 := w6) [fun V W => V 0 = .agg #[.slice D0 N.ends.length d0, .slice D1 N.ids.length d1, .slice D2 N.inputs.length d2], fun V W => V 1 = .slice (some ⟨bl, off, none⟩) 4 cp, fun V W => V 2 = .pointer (some ⟨bl, off, none⟩), fun V W => V 3 = .int .i64 (nu : Int), fun V W => V 4 = .slice (some ⟨bl, off, none⟩) 4 cp, fun V W => V 5 = .pointer (some ⟨bl, off + 1, none⟩), fun V W => V 6 = .int .i64 (ni : Int), fun V W => V 7 = .slice (some ⟨bl, off, none⟩) 4 cp, fun V W => V 8 = .pointer (some ⟨bl, off + 2, none⟩), fun V W => V 9 = .int .i64 (nx : Int), fun V W => V 10 = .slice (some ⟨bl, off, none⟩) 4 cp, fun V W => V 11 = .pointer (some ⟨bl, off + 3, none⟩), fun V W => V 12 = .int .i64 (ni : Int), fun V W => ∃ P0 r0 P1 r1' P2 r2, V 13 = .tuple #[.agg #[.slice P0 NA.ends.length r0, .slice P1 NA.ids.length r1', .slice P2 NA.inputs.length r2], .bool true], fun V W => V 14 = V 13 ∧ ∃ P0 r0 P1 r1' P2 r2, V 13 = .tuple #[.agg #[.slice P0 NA.ends.length r0, .slice P1 NA.ids.length r1', .slice P2 NA.inputs.length r2], .bool true], fun V W => V 14 = .tuple #[V 15, .bool true] ∧ ∃ P0 r0 P1 r1' P2 r2, V 15 = .agg #[.slice P0 NA.ends.length r0, .slice P1 NA.ids.length r1', .slice P2 NA.inputs.length r2], fun V W => V 16 = .bool true, fun V W => ∃ b, V 17 = .pointer (some ⟨b, 0, none⟩) ∧ BoxN W b (.slice none 0 0) (.slice none 0 0) (.slice none 0 0), fun V W => True] (GI [13, 17] (oNt w6.heap.size NA)) 19 18 [16] (fun V W => stN (V 17) (V 15) W) ?_ ?_ (fun V W => trivial) (by kernel_rfl) (by kernel_rfl) (by kernel_rfl) (by kernel_rfl) (by kernel_rfl) (since_refl _) (fun V W _ => GI.none _ _ _ _) ?_ ?_ ?_ ?_
     ·intro r hr V W W' h hs
      simp only [List.mem_cons, List.not_mem_nil, or_false] at hr
      rcases hr with rfl | rfl | rfl | rfl | rfl | rfl | rfl | rfl | rfl | rfl | rfl | rfl | rfl | rfl | rfl | rfl | rfl | rfl | rfl
      ·exact h
      ·exact h
      ·exact h
      ·exact h
      ·exact h
      ·exact h
      ·exact h
      ·exact h
      ·exact h
      ·exact h
      ·exact h
      ·exact h
      ·exact h
      ·exact (h)
      ·exact (h)
      ·exact (h)
      ·exact h
      ·exact (⟨h.choose, h.choose_spec.1, BoxN.since h.choose_spec.2 hs⟩)
      ·exact (trivial)
     ·intro j r hj V V' W h1 h2 h
      match j, hj with
      | 0, hj =>
       obtain rfl := Option.some.inj hj
       have h3 : V 0 = .agg #[.slice D0 N.ends.length d0, .slice D1 N.ids.length d1, .slice D2 N.inputs.length d2] := h
       show V' 0 = .agg #[.slice D0 N.ends.length d0, .slice D1 N.ids.length d1, .slice D2 N.inputs.length d2]
       rw [← h1]
       exact h3
      | 1, hj =>
       obtain rfl := Option.some.inj hj
       have h3 : V 1 = .slice (some ⟨bl, off, none⟩) 4 cp := h
       show V' 1 = .slice (some ⟨bl, off, none⟩) 4 cp
       rw [← h1]
       exact h3
      | 2, hj =>
       obtain rfl := Option.some.inj hj
       have h3 : V 2 = .pointer (some ⟨bl, off, none⟩) := h
       show V' 2 = .pointer (some ⟨bl, off, none⟩)
       rw [← h1]
       exact h3
      | 3, hj =>
       obtain rfl := Option.some.inj hj
       have h3 : V 3 = .int .i64 (nu : Int) := h
       show V' 3 = .int .i64 (nu : Int)
       rw [← h1]
       exact h3
      | 4, hj =>
       obtain rfl := Option.some.inj hj
       have h3 : V 4 = .slice (some ⟨bl, off, none⟩) 4 cp := h
       show V' 4 = .slice (some ⟨bl, off, none⟩) 4 cp
       rw [← h1]
       exact h3
      | 5, hj =>
       obtain rfl := Option.some.inj hj
       have h3 : V 5 = .pointer (some ⟨bl, off + 1, none⟩) := h
       show V' 5 = .pointer (some ⟨bl, off + 1, none⟩)
       rw [← h1]
       exact h3
      | 6, hj =>
       obtain rfl := Option.some.inj hj
       have h3 : V 6 = .int .i64 (ni : Int) := h
       show V' 6 = .int .i64 (ni : Int)
       rw [← h1]
       exact h3
      | 7, hj =>
       obtain rfl := Option.some.inj hj
       have h3 : V 7 = .slice (some ⟨bl, off, none⟩) 4 cp := h
       show V' 7 = .slice (some ⟨bl, off, none⟩) 4 cp
       rw [← h1]
       exact h3
      | 8, hj =>
       obtain rfl := Option.some.inj hj
       have h3 : V 8 = .pointer (some ⟨bl, off + 2, none⟩) := h
       show V' 8 = .pointer (some ⟨bl, off + 2, none⟩)
       rw [← h1]
       exact h3
      | 9, hj =>
       obtain rfl := Option.some.inj hj
       have h3 : V 9 = .int .i64 (nx : Int) := h
       show V' 9 = .int .i64 (nx : Int)
       rw [← h1]
       exact h3
      | 10, hj =>
       obtain rfl := Option.some.inj hj
       have h3 : V 10 = .slice (some ⟨bl, off, none⟩) 4 cp := h
       show V' 10 = .slice (some ⟨bl, off, none⟩) 4 cp
       rw [← h1]
       exact h3
      | 11, hj =>
       obtain rfl := Option.some.inj hj
       have h3 : V 11 = .pointer (some ⟨bl, off + 3, none⟩) := h
       show V' 11 = .pointer (some ⟨bl, off + 3, none⟩)
       rw [← h1]
       exact h3
      | 12, hj =>
       obtain rfl := Option.some.inj hj
       have h3 : V 12 = .int .i64 (ni : Int) := h
       show V' 12 = .int .i64 (ni : Int)
       rw [← h1]
       exact h3
      | 13, hj =>
       obtain rfl := Option.some.inj hj
       have h3 : ∃ P0 r0 P1 r1' P2 r2, V 13 = .tuple #[.agg #[.slice P0 NA.ends.length r0, .slice P1 NA.ids.length r1', .slice P2 NA.inputs.length r2], .bool true] := h
       show ∃ P0 r0 P1 r1' P2 r2, V' 13 = .tuple #[.agg #[.slice P0 NA.ends.length r0, .slice P1 NA.ids.length r1', .slice P2 NA.inputs.length r2], .bool true]
       rw [← h1]
       exact h3
      | 14, hj =>
       obtain rfl := Option.some.inj hj
       have h213 := h2 _ rfl 13 (by decide +kernel)
       have h3 : V 14 = V 13 ∧ ∃ P0 r0 P1 r1' P2 r2, V 13 = .tuple #[.agg #[.slice P0 NA.ends.length r0, .slice P1 NA.ids.length r1', .slice P2 NA.inputs.length r2], .bool true] := h
       show V' 14 = V' 13 ∧ ∃ P0 r0 P1 r1' P2 r2, V' 13 = .tuple #[.agg #[.slice P0 NA.ends.length r0, .slice P1 NA.ids.length r1', .slice P2 NA.inputs.length r2], .bool true]
       rw [← h1, ← h213]
       exact h3
      | 15, hj =>
       obtain rfl := Option.some.inj hj
       have h214 := h2 _ rfl 14 (by decide +kernel)
       have h3 : V 14 = .tuple #[V 15, .bool true] ∧ ∃ P0 r0 P1 r1' P2 r2, V 15 = .agg #[.slice P0 NA.ends.length r0, .slice P1 NA.ids.length r1', .slice P2 NA.inputs.length r2] := h
       show V' 14 = .tuple #[V' 15, .bool true] ∧ ∃ P0 r0 P1 r1' P2 r2, V' 15 = .agg #[.slice P0 NA.ends.length r0, .slice P1 NA.ids.length r1', .slice P2 NA.inputs.length r2]
       rw [← h1, ← h214]
       exact h3
      | 16, hj =>
       obtain rfl := Option.some.inj hj
       have h3 : V 16 = .bool true := h
       show V' 16 = .bool true
       rw [← h1]
       exact h3
      | 17, hj =>
       obtain rfl := Option.some.inj hj
       have h3 : ∃ b, V 17 = .pointer (some ⟨b, 0, none⟩) ∧ BoxN W b (.slice none 0 0) (.slice none 0 0) (.slice none 0 0) := h
       show ∃ b, V' 17 = .pointer (some ⟨b, 0, none⟩) ∧ BoxN W b (.slice none 0 0) (.slice none 0 0) (.slice none 0 0)
       rw [← h1]
       exact h3
      | 18, hj =>
       obtain rfl := Option.some.inj hj
       trivial
      | j + 19, hj => simp at hj
     ·intro i o hi his ho D V W hW hd hnD hGG
      match i, ho with
      | 0, ho =>
       cases ho
       clear hd hi his
       refine ⟨rfl, ?_⟩
       simp only [putAll, zR19, List.getElem?_toArray, List.getElem?_cons_succ, List.getElem?_cons_zero]
       (try simp only [zA])
       refine dstep_val (u := .agg #[.slice D0 N.ends.length d0, .slice D1 N.ids.length d1, .slice D2 N.inputs.length d2]) (W' := W) (by go_simp) ⟨since_refl _, ?_, GI.skip hO hGG (since_refl _) (by decide) _⟩
       exact upd_self V 0 _
      | 1, ho =>
       cases ho
       clear hd hi his
       refine ⟨rfl, ?_⟩
       simp only [putAll, zR19, List.getElem?_toArray, List.getElem?_cons_succ, List.getElem?_cons_zero]
       (try simp only [zA])
       refine dstep_val (u := .slice (some ⟨bl, off, none⟩) 4 cp) (W' := W) (by go_simp) ⟨since_refl _, ?_, GI.skip hO hGG (since_refl _) (by decide) _⟩
       exact upd_self V 1 _
      | 2, ho =>
       cases ho
       have e1 : V 1 = .slice (some ⟨bl, off, none⟩) 4 cp := hd 1 (by decide +kernel)
       clear hd hi his
       refine ⟨rfl, ?_⟩
       simp only [putAll, zR19, List.getElem?_toArray, List.getElem?_cons_succ, List.getElem?_cons_zero]
       (try simp only [zA])
       refine dstep_val (u := .pointer (some ⟨bl, off, none⟩)) (W' := W) (by go_simp) ⟨since_refl _, ?_, GI.skip hO hGG (since_refl _) (by decide) _⟩
       exact upd_self V 2 _
      | 3, ho =>
       cases ho
       have e2 : V 2 = .pointer (some ⟨bl, off, none⟩) := hd 2 (by decide +kernel)
       clear hd hi his
       refine ⟨rfl, ?_⟩
       simp only [putAll, zR19, List.getElem?_toArray, List.getElem?_cons_succ, List.getElem?_cons_zero]
       (try simp only [zA])
       refine dstep_val (u := .int .i64 (nu : Int)) (W' := W) (by go_simp) ⟨since_refl _, ?_, GI.skip hO hGG (since_refl _) (by decide) _⟩
       exact upd_self V 3 _
      | 4, ho =>
       cases ho
       clear hd hi his
       refine ⟨rfl, ?_⟩
       simp only [putAll, zR19, List.getElem?_toArray, List.getElem?_cons_succ, List.getElem?_cons_zero]
       (try simp only [zA])
       refine dstep_val (u := .slice (some ⟨bl, off, none⟩) 4 cp) (W' := W) (by go_simp) ⟨since_refl _, ?_, GI.skip hO hGG (since_refl _) (by decide) _⟩
       exact upd_self V 4 _
      | 5, ho =>
       cases ho
       have e4 : V 4 = .slice (some ⟨bl, off, none⟩) 4 cp := hd 4 (by decide +kernel)
       clear hd hi his
       refine ⟨rfl, ?_⟩
       simp only [putAll, zR19, List.getElem?_toArray, List.getElem?_cons_succ, List.getElem?_cons_zero]
       (try simp only [zA])
       refine dstep_val (u := .pointer (some ⟨bl, off + 1, none⟩)) (W' := W) (by go_simp) ⟨since_refl _, ?_, GI.skip hO hGG (since_refl _) (by decide) _⟩
       exact upd_self V 5 _
      | 6, ho =>
       cases ho
       have e5 : V 5 = .pointer (some ⟨bl, off + 1, none⟩) := hd 5 (by decide +kernel)
       clear hd hi his
       refine ⟨rfl, ?_⟩
       simp only [putAll, zR19, List.getElem?_toArray, List.getElem?_cons_succ, List.getElem?_cons_zero]
       (try simp only [zA])
       refine dstep_val (u := .int .i64 (ni : Int)) (W' := W) (by go_simp) ⟨since_refl _, ?_, GI.skip hO hGG (since_refl _) (by decide) _⟩
       exact upd_self V 6 _
      | 7, ho =>
       cases ho
       clear hd hi his
       refine ⟨rfl, ?_⟩
       simp only [putAll, zR19, List.getElem?_toArray, List.getElem?_cons_succ, List.getElem?_cons_zero]
       (try simp only [zA])
       refine dstep_val (u := .slice (some ⟨bl, off, none⟩) 4 cp) (W' := W) (by go_simp) ⟨since_refl _, ?_, GI.skip hO hGG (since_refl _) (by decide) _⟩
       exact upd_self V 7 _
      | 8, ho =>
       cases ho
       have e7 : V 7 = .slice (some ⟨bl, off, none⟩) 4 cp := hd 7 (by decide +kernel)
       clear hd hi his
       refine ⟨rfl, ?_⟩
       simp only [putAll, zR19, List.getElem?_toArray, List.getElem?_cons_succ, List.getElem?_cons_zero]
       (try simp only [zA])
       refine dstep_val (u := .pointer (some ⟨bl, off + 2, none⟩)) (W' := W) (by go_simp) ⟨since_refl _, ?_, GI.skip hO hGG (since_refl _) (by decide) _⟩
       exact upd_self V 8 _
      | 9, ho =>
       cases ho
       have e8 : V 8 = .pointer (some ⟨bl, off + 2, none⟩) := hd 8 (by decide +kernel)
       clear hd hi his
       refine ⟨rfl, ?_⟩
       simp only [putAll, zR19, List.getElem?_toArray, List.getElem?_cons_succ, List.getElem?_cons_zero]
       (try simp only [zA])
       refine dstep_val (u := .int .i64 (nx : Int)) (W' := W) (by go_simp) ⟨since_refl _, ?_, GI.skip hO hGG (since_refl _) (by decide) _⟩
       exact upd_self V 9 _
      | 10, ho =>
       cases ho
       clear hd hi his
       refine ⟨rfl, ?_⟩
       simp only [putAll, zR19, List.getElem?_toArray, List.getElem?_cons_succ, List.getElem?_cons_zero]
       (try simp only [zA])
       refine dstep_val (u := .slice (some ⟨bl, off, none⟩) 4 cp) (W' := W) (by go_simp) ⟨since_refl _, ?_, GI.skip hO hGG (since_refl _) (by decide) _⟩
       exact upd_self V 10 _
      | 11, ho =>
       cases ho
       have e10 : V 10 = .slice (some ⟨bl, off, none⟩) 4 cp := hd 10 (by decide +kernel)
       clear hd hi his
       refine ⟨rfl, ?_⟩
       simp only [putAll, zR19, List.getElem?_toArray, List.getElem?_cons_succ, List.getElem?_cons_zero]
       (try simp only [zA])
       refine dstep_val (u := .pointer (some ⟨bl, off + 3, none⟩)) (W' := W) (by go_simp) ⟨since_refl _, ?_, GI.skip hO hGG (since_refl _) (by decide) _⟩
       exact upd_self V 11 _
      | 12, ho =>
       cases ho
       have e11 : V 11 = .pointer (some ⟨bl, off + 3, none⟩) := hd 11 (by decide +kernel)
       clear hd hi his
       refine ⟨rfl, ?_⟩
       simp only [putAll, zR19, List.getElem?_toArray, List.getElem?_cons_succ, List.getElem?_cons_zero]
       (try simp only [zA])
       refine dstep_val (u := .int .i64 (ni : Int)) (W' := W) (by go_simp) ⟨since_refl _, ?_, GI.skip hO hGG (since_refl _) (by decide) _⟩
       exact upd_self V 12 _
      | 13, ho =>
       cases ho
       have e0 : V 0 = .agg #[.slice D0 N.ends.length d0, .slice D1 N.ids.length d1, .slice D2 N.inputs.length d2] := hd 0 (by decide +kernel)
       have e3 : V 3 = .int .i64 (nu : Int) := hd 3 (by decide +kernel)
       have e6 : V 6 = .int .i64 (ni : Int) := hd 6 (by decide +kernel)
       have e9 : V 9 = .int .i64 (nx : Int) := hd 9 (by decide +kernel)
       have e12 : V 12 = .int .i64 (ni : Int) := hd 12 (by decide +kernel)
       clear hd hi his
       refine ⟨rfl, ?_⟩
       simp only [putAll, zR19, List.getElem?_toArray, List.getElem?_cons_succ, List.getElem?_cons_zero]
       (try simp only [zA])
       have HG := Lib.hid hGG
       have HO := Lib.hid hO
       clear hGG hO
       refine dstep_call (f := 13) (args := #[.agg #[.slice D0 N.ends.length d0, .slice D1 N.ids.length d1, .slice D2 N.inputs.length d2], .int .i64 (nu : Int), .int .i64 (ni : Int), .int .i64 (nx : Int), .int .i64 (ni : Int)]) (W' := W) (by go_simp) ?_
       refine (HcE.out W hW).mono ?_
       rintro e W1 ⟨ue, ui, un, S, rfl, ho, hb⟩
       obtain ⟨P0, r0, rfl, -, -, -⟩ := id ho.read.1
       obtain ⟨P1, r1', rfl, -, -, -⟩ := id ho.read.2.1
       obtain ⟨P2, r2, rfl, -, -, -⟩ := id ho.read.2.2
       exact ⟨_, rfl, hb, ⟨P0, r0, P1, r1', P2, r2, upd_self V 13 _⟩, GI.add HO.out HG.out hb hnD (oNt_call ho hW.below.size)⟩
      | 14, ho =>
       cases ho
       have e13 : ∃ P0 r0 P1 r1' P2 r2, V 13 = .tuple #[.agg #[.slice P0 NA.ends.length r0, .slice P1 NA.ids.length r1', .slice P2 NA.inputs.length r2], .bool true] := hd 13 (by decide +kernel)
       clear hd hi his
       refine ⟨rfl, ?_⟩
       simp only [putAll, zR19, List.getElem?_toArray, List.getElem?_cons_succ, List.getElem?_cons_zero]
       (try simp only [zA])
       obtain ⟨P0, r0, P1, r1', P2, r2, hx⟩ := e13
       refine dstep_val (u := .tuple #[.agg #[.slice P0 NA.ends.length r0, .slice P1 NA.ids.length r1', .slice P2 NA.inputs.length r2], .bool true]) (W' := W) (by clear hGG hO; rw [hx]; go_simp) ⟨since_refl _, ⟨?_, P0, r0, P1, r1', P2, r2, ?_⟩, GI.skip hO hGG (since_refl _) (by decide) _⟩
       ·(show upd V 14 _ 14 = upd V 14 _ 13; rw [upd_self, upd_ne V _ (show (13 : Nat) ≠ 14 by decide)]; exact hx.symm)
       ·(show upd V 14 _ 13 = _; rw [upd_ne V _ (show (13 : Nat) ≠ 14 by decide)]; exact hx)
      | 15, ho =>
       cases ho
       have e14 : V 14 = V 13 ∧ ∃ P0 r0 P1 r1' P2 r2, V 13 = .tuple #[.agg #[.slice P0 NA.ends.length r0, .slice P1 NA.ids.length r1', .slice P2 NA.inputs.length r2], .bool true] := hd 14 (by decide +kernel)
       clear hd hi his
       refine ⟨rfl, ?_⟩
       simp only [putAll, zR19, List.getElem?_toArray, List.getElem?_cons_succ, List.getElem?_cons_zero]
       (try simp only [zA])
       obtain ⟨h13, P0, r0, P1, r1', P2, r2, hx⟩ := e14
       rw [hx] at h13
       refine dstep_val (u := .agg #[.slice P0 NA.ends.length r0, .slice P1 NA.ids.length r1', .slice P2 NA.inputs.length r2]) (W' := W) (by clear hGG hO; rw [h13]; go_simp) ⟨since_refl _, ⟨?_, P0, r0, P1, r1', P2, r2, upd_self V 15 _⟩, GI.skip hO hGG (since_refl _) (by decide) _⟩
       show upd V 15 _ 14 = .tuple #[upd V 15 _ 15, _]
       rw [upd_self, upd_ne V _ (show (14 : Nat) ≠ 15 by decide)]
       exact h13
      | 16, ho =>
       cases ho
       have e14 : V 14 = V 13 ∧ ∃ P0 r0 P1 r1' P2 r2, V 13 = .tuple #[.agg #[.slice P0 NA.ends.length r0, .slice P1 NA.ids.length r1', .slice P2 NA.inputs.length r2], .bool true] := hd 14 (by decide +kernel)
       clear hd hi his
       refine ⟨rfl, ?_⟩
       simp only [putAll, zR19, List.getElem?_toArray, List.getElem?_cons_succ, List.getElem?_cons_zero]
       (try simp only [zA])
       obtain ⟨h13, P0, r0, P1, r1', P2, r2, hx⟩ := e14
       rw [hx] at h13
       rw [h13]
       refine dstep_val (u := .bool true) (W' := W) (by go_simp) ⟨since_refl _, ?_, GI.skip hO hGG (since_refl _) (by decide) _⟩
       exact upd_self V 16 _
      | 17, ho =>
       cases ho
       clear hd hi his
       refine ⟨rfl, ?_⟩
       simp only [putAll, zR19, List.getElem?_toArray, List.getElem?_cons_succ, List.getElem?_cons_zero]
       (try simp only [zA])
       refine dstep_val (u := .pointer (some ⟨W.heap.size, 0, none⟩)) (W' := W.alloc nilB) (by clear hGG hO; unfold nilB; go_simp) ⟨since_alloc _ (since_refl _), ⟨_, upd_self V 17 _, boxN_new W⟩, GI.add hO hGG (since_alloc _ (since_refl _)) hnD (oNt_box W hW.below.size)⟩
      | 18, ho =>
       exact absurd rfl his
      | i + 19, ho => omega
     ·intro i o hi his hlate ho V W hW hd
      match i, ho with
      | 0, ho =>
       exact absurd hlate (by decide)
      | 1, ho =>
       exact absurd hlate (by decide)
      | 2, ho =>
       exact absurd hlate (by decide)
      | 3, ho =>
       exact absurd hlate (by decide)
      | 4, ho =>
       exact absurd hlate (by decide)
      | 5, ho =>
       exact absurd hlate (by decide)
      | 6, ho =>
       exact absurd hlate (by decide)
      | 7, ho =>
       exact absurd hlate (by decide)
      | 8, ho =>
       exact absurd hlate (by decide)
      | 9, ho =>
       exact absurd hlate (by decide)
      | 10, ho =>
       exact absurd hlate (by decide)
      | 11, ho =>
       exact absurd hlate (by decide)
      | 12, ho =>
       exact absurd hlate (by decide)
      | 13, ho =>
       exact absurd hlate (by decide)
      | 14, ho =>
       exact absurd hlate (by decide)
      | 15, ho =>
       exact absurd hlate (by decide)
      | 16, ho =>
       cases ho
       have e14 : V 14 = V 13 ∧ ∃ P0 r0 P1 r1' P2 r2, V 13 = .tuple #[.agg #[.slice P0 NA.ends.length r0, .slice P1 NA.ids.length r1', .slice P2 NA.inputs.length r2], .bool true] := hd 14 (by decide +kernel)
       clear hd hi his hlate
       refine ⟨rfl, .bool true, fun X => ?_, upd_self V 16 _, fun X => by simp [upd], fun D hnD hGG => GI.skip hO hGG (since_refl _) (by decide) _⟩
       simp only [putAll, zR19, List.getElem?_toArray, List.getElem?_cons_succ, List.getElem?_cons_zero]
       (try simp only [zA])
       obtain ⟨h13, P0, r0, P1, r1', P2, r2, hx⟩ := e14
       rw [hx] at h13
       rw [h13]
       go_simp
      | 17, ho =>
       exact absurd hlate (by decide)
      | 18, ho =>
       exact absurd hlate (by decide)
      | i + 19, ho => omega
     ·intro o ho
      cases ho
      refine ⟨rfl, fun V W hW hd => ?_⟩
      have e15 : V 14 = .tuple #[V 15, .bool true] ∧ ∃ P0 r0 P1 r1' P2 r2, V 15 = .agg #[.slice P0 NA.ends.length r0, .slice P1 NA.ids.length r1', .slice P2 NA.inputs.length r2] := hd 15 (by decide +kernel)
      have e17 : ∃ b, V 17 = .pointer (some ⟨b, 0, none⟩) ∧ BoxN W b (.slice none 0 0) (.slice none 0 0) (.slice none 0 0) := hd 17 (by decide +kernel)
      clear hd
      refine ⟨rfl, ?_⟩
      simp only [putAll, zR19, List.getElem?_toArray, List.getElem?_cons_succ, List.getElem?_cons_zero]
      (try simp only [zA])
      obtain ⟨b, hb, hh⟩ := e17
      obtain ⟨_, P0, r0, P1, r1', P2, r2, h6⟩ := e15
      obtain ⟨c0, c1, c2, f0, f1, f2⟩ := hh.box.cells
      clear hh
      rw [hb, h6, stN_eq]
      clear hb h6
      go_simp
     intro V W hW hV hGG
     have e0 : V 0 = .agg #[.slice D0 N.ends.length d0, .slice D1 N.ids.length d1, .slice D2 N.inputs.length d2] := hV 0 (by decide) (by decide)
     have e1 : V 1 = .slice (some ⟨bl, off, none⟩) 4 cp := hV 1 (by decide) (by decide)
     have e2 : V 2 = .pointer (some ⟨bl, off, none⟩) := hV 2 (by decide) (by decide)
     have e3 : V 3 = .int .i64 (nu : Int) := hV 3 (by decide) (by decide)
     have e4 : V 4 = .slice (some ⟨bl, off, none⟩) 4 cp := hV 4 (by decide) (by decide)
     have e5 : V 5 = .pointer (some ⟨bl, off + 1, none⟩) := hV 5 (by decide) (by decide)
     have e6 : V 6 = .int .i64 (ni : Int) := hV 6 (by decide) (by decide)
     have e7 : V 7 = .slice (some ⟨bl, off, none⟩) 4 cp := hV 7 (by decide) (by decide)
     have e8 : V 8 = .pointer (some ⟨bl, off + 2, none⟩) := hV 8 (by decide) (by decide)
     have e9 : V 9 = .int .i64 (nx : Int) := hV 9 (by decide) (by decide)
     have e10 : V 10 = .slice (some ⟨bl, off, none⟩) 4 cp := hV 10 (by decide) (by decide)
     have e11 : V 11 = .pointer (some ⟨bl, off + 3, none⟩) := hV 11 (by decide) (by decide)
     have e12 : V 12 = .int .i64 (ni : Int) := hV 12 (by decide) (by decide)
     have e13 : ∃ P0 r0 P1 r1' P2 r2, V 13 = .tuple #[.agg #[.slice P0 NA.ends.length r0, .slice P1 NA.ids.length r1', .slice P2 NA.inputs.length r2], .bool true] := hV 13 (by decide) (by decide)
     have e14 : V 14 = V 13 ∧ ∃ P0 r0 P1 r1' P2 r2, V 13 = .tuple #[.agg #[.slice P0 NA.ends.length r0, .slice P1 NA.ids.length r1', .slice P2 NA.inputs.length r2], .bool true] := hV 14 (by decide) (by decide)
     have e15 : V 14 = .tuple #[V 15, .bool true] ∧ ∃ P0 r0 P1 r1' P2 r2, V 15 = .agg #[.slice P0 NA.ends.length r0, .slice P1 NA.ids.length r1', .slice P2 NA.inputs.length r2] := hV 15 (by decide) (by decide)
     have e16 : V 16 = .bool true := hV 16 (by decide) (by decide)
     have e17 : ∃ b, V 17 = .pointer (some ⟨b, 0, none⟩) ∧ BoxN W b (.slice none 0 0) (.slice none 0 0) (.slice none 0 0) := hV 17 (by decide) (by decide)
     clear hV
     simp only [putAll, zR19, List.getElem?_toArray, List.getElem?_cons_succ, List.getElem?_cons_zero]
     (try simp only [zA])
     simp only [List.drop_succ_cons, List.drop_zero]
     obtain ⟨I, hI1, hI2⟩ := hGG
     have oc := (hI1 13 (by decide) ⟨by decide, by decide⟩).1
     have ob := (hI1 17 (by decide) ⟨by decide, by decide⟩).1
     obtain ⟨PB, A0, a0, A1', a1', A2', a2', hp, hu, hSf, hIn, hBox⟩ := nt_stored hW oc ob (hI2 13 (by decide) 17 (by decide) (by decide) ⟨by decide, by decide⟩ ⟨by decide, by decide⟩)
     have hv := e15.1
     rw [e14.1, hu] at hv
     have hv7 : V 15 = .agg #[.slice A0 NA.ends.length a0, .slice A1' NA.ids.length a1', .slice A2' NA.inputs.length a2'] := by simpa using hv.symm
     rw [hp, hv7]
     obtain ⟨w8, hw8⟩ : ∃ z, z = stN (.pointer (some ⟨PB, 0, none⟩)) (.agg #[.slice A0 NA.ends.length a0, .slice A1' NA.ids.length a1', .slice A2' NA.inputs.length a2']) W := ⟨_, rfl⟩
     have hw8' : set3 W PB (.slice A0 NA.ends.length a0) (.slice A1' NA.ids.length a1') (.slice A2' NA.inputs.length a2') = w8 := hw8.symm
     rw [hw8'] at hSf hIn hBox
     rw [← hw8]
     have HA8 := Lib.hid hIn
     have HW8 : Hid (Since wr w8) := HW6.out.after hSf
     have HBa := Lib.hid (And.intro (have_cell hBox.cells.1) (And.intro (have_cell hBox.cells.2.1) (have_cell hBox.cells.2.2.1)))
     rw [e16]
     clear e0 e1 e2 e3 e4 e5 e6 e7 e8 e9 e10 e11 e12 e13 e14 e15 e16 e17 hu hp hv hv7 oc ob hI1 hI2 hSf hIn hBox hw8' hw8 hW hO
     have K0 := fun W (hW : Since w8 W) => HG.out.1 W (HW8.out.after hW)
     have K1 := fun W (hW : Since w8 W) => HG.out.2.1 W (HW8.out.after hW)
     have K2 := fun W (hW : Since w8 W) => HG.out.2.2.1 W (HW8.out.after hW)
     have K3 := fun W (hW : Since w8 W) => HG.out.2.2.2 W (HW8.out.after hW)
     have B0 := HBa.out.1
     have B1 := HBa.out.2.1
     have B2 := HBa.out.2.2
     have HcE2 := Lib.hid (show ∀ W, Since w8 W → Calls Tryz.prog 13 #[.agg #[.slice A0 NA.ends.length a0, .slice A1' NA.ids.length a1', .slice A2' NA.inputs.length a2'], .int .i64 (nu : Int), .int .i64 (ni : Int), .int .i64 (nx : Int), .int .i64 (ni : Int)] W (NewNetB W N true) from fun W hW => by
      have h9 := crossE_true _ _ _ NA nu ni nx ni W (HA8.out.keep hW.below) bu bi bx bi Hsz2.out HE2.out
      rw [show crossN NA ((nu : Int), (ni : Int)) ((nx : Int), (ni : Int)) = N from by rw [HNA.out]; exact HHX.out.toMayX.back] at h9
      exact h9)
     go_upto_region 14 with (fail)
     have hO : ∀ (i : Nat) (u : Value) (W W' : World) (lo hi : Nat), (oNt w8.heap.size N) i u W lo hi → Since W W' → (oNt w8.heap.size N) i u W' lo hi := fun i u W W' lo hi h hs => oNt.keep h hs
     refine wp_region_dstl (w0 := w8) [fun V W => V 0 = .agg #[.slice A0 NA.ends.length a0, .slice A1' NA.ids.length a1', .slice A2' NA.inputs.length a2'], fun V W => V 1 = .slice (some ⟨bl, off, none⟩) 4 cp, fun V W => V 2 = .pointer (some ⟨bl, off, none⟩), fun V W => V 3 = .int .i64 (nu : Int), fun V W => V 4 = .slice (some ⟨bl, off, none⟩) 4 cp, fun V W => V 5 = .pointer (some ⟨bl, off + 1, none⟩), fun V W => V 6 = .int .i64 (ni : Int), fun V W => V 7 = .slice (some ⟨bl, off, none⟩) 4 cp, fun V W => V 8 = .pointer (some ⟨bl, off + 2, none⟩), fun V W => V 9 = .int .i64 (nx : Int), fun V W => V 10 = .slice (some ⟨bl, off, none⟩) 4 cp, fun V W => V 11 = .pointer (some ⟨bl, off + 3, none⟩), fun V W => V 12 = .int .i64 (ni : Int), fun V W => ∃ P0 r0 P1 r1' P2 r2, V 13 = .tuple #[.agg #[.slice P0 N.ends.length r0, .slice P1 N.ids.length r1', .slice P2 N.inputs.length r2], .bool true], fun V W => V 14 = V 13 ∧ ∃ P0 r0 P1 r1' P2 r2, V 13 = .tuple #[.agg #[.slice P0 N.ends.length r0, .slice P1 N.ids.length r1', .slice P2 N.inputs.length r2], .bool true], fun V W => V 14 = .tuple #[V 15, .bool true] ∧ ∃ P0 r0 P1 r1' P2 r2, V 15 = .agg #[.slice P0 N.ends.length r0, .slice P1 N.ids.length r1', .slice P2 N.inputs.length r2], fun V W => V 16 = .bool true, fun V W => ∃ b, V 17 = .pointer (some ⟨b, 0, none⟩) ∧ BoxN W b (.slice none 0 0) (.slice none 0 0) (.slice none 0 0), fun V W => True] (GI [13, 17] (oNt w8.heap.size N)) 19 18 [16] (fun V W => stN (V 17) (V 15) W) ?_ ?_ (fun V W => trivial) (by kernel_rfl) (by kernel_rfl) (by kernel_rfl) (by kernel_rfl) (by kernel_rfl) (since_refl _) (fun V W _ => GI.none _ _ _ _) ?_ ?_ ?_ ?_
     ·intro r hr V W W' h hs
      simp only [List.mem_cons, List.not_mem_nil, or_false] at hr
      rcases hr with rfl | rfl | rfl | rfl | rfl | rfl | rfl | rfl | rfl | rfl | rfl | rfl | rfl | rfl | rfl | rfl | rfl | rfl | rfl
      ·exact h
      ·exact h
      ·exact h
      ·exact h
      ·exact h
      ·exact h
      ·exact h
      ·exact h
      ·exact h
      ·exact h
      ·exact h
      ·exact h
      ·exact h
      ·exact (h)
      ·exact (h)
      ·exact (h)
      ·exact h
      ·exact (⟨h.choose, h.choose_spec.1, BoxN.since h.choose_spec.2 hs⟩)
      ·exact (trivial)
     ·intro j r hj V V' W h1 h2 h
      match j, hj with
      | 0, hj =>
       obtain rfl := Option.some.inj hj
       have h3 : V 0 = .agg #[.slice A0 NA.ends.length a0, .slice A1' NA.ids.length a1', .slice A2' NA.inputs.length a2'] := h
       show V' 0 = .agg #[.slice A0 NA.ends.length a0, .slice A1' NA.ids.length a1', .slice A2' NA.inputs.length a2']
       rw [← h1]
       exact h3
      | 1, hj =>
       obtain rfl := Option.some.inj hj
       have h3 : V 1 = .slice (some ⟨bl, off, none⟩) 4 cp := h
       show V' 1 = .slice (some ⟨bl, off, none⟩) 4 cp
       rw [← h1]
       exact h3
      | 2, hj =>
       obtain rfl := Option.some.inj hj
       have h3 : V 2 = .pointer (some ⟨bl, off, none⟩) := h
       show V' 2 = .pointer (some ⟨bl, off, none⟩)
       rw [← h1]
       exact h3
      | 3, hj =>
       obtain rfl := Option.some.inj hj
       have h3 : V 3 = .int .i64 (nu : Int) := h
       show V' 3 = .int .i64 (nu : Int)
       rw [← h1]
       exact h3
      | 4, hj =>
       obtain rfl := Option.some.inj hj
       have h3 : V 4 = .slice (some ⟨bl, off, none⟩) 4 cp := h
       show V' 4 = .slice (some ⟨bl, off, none⟩) 4 cp
       rw [← h1]
       exact h3
      | 5, hj =>
       obtain rfl := Option.some.inj hj
       have h3 : V 5 = .pointer (some ⟨bl, off + 1, none⟩) := h
       show V' 5 = .pointer (some ⟨bl, off + 1, none⟩)
       rw [← h1]
       exact h3
      | 6, hj =>
       obtain rfl := Option.some.inj hj
       have h3 : V 6 = .int .i64 (ni : Int) := h
       show V' 6 = .int .i64 (ni : Int)
       rw [← h1]
       exact h3
      | 7, hj =>
       obtain rfl := Option.some.inj hj
       have h3 : V 7 = .slice (some ⟨bl, off, none⟩) 4 cp := h
       show V' 7 = .slice (some ⟨bl, off, none⟩) 4 cp
       rw [← h1]
       exact h3
      | 8, hj =>
       obtain rfl := Option.some.inj hj
       have h3 : V 8 = .pointer (some ⟨bl, off + 2, none⟩) := h
       show V' 8 = .pointer (some ⟨bl, off + 2, none⟩)
       rw [← h1]
       exact h3
      | 9, hj =>
       obtain rfl := Option.some.inj hj
       have h3 : V 9 = .int .i64 (nx : Int) := h
       show V' 9 = .int .i64 (nx : Int)
       rw [← h1]
       exact h3
      | 10, hj =>
       obtain rfl := Option.some.inj hj
       have h3 : V 10 = .slice (some ⟨bl, off, none⟩) 4 cp := h
       show V' 10 = .slice (some ⟨bl, off, none⟩) 4 cp
       rw [← h1]
       exact h3
      | 11, hj =>
       obtain rfl := Option.some.inj hj
       have h3 : V 11 = .pointer (some ⟨bl, off + 3, none⟩) := h
       show V' 11 = .pointer (some ⟨bl, off + 3, none⟩)
       rw [← h1]
       exact h3
      | 12, hj =>
       obtain rfl := Option.some.inj hj
       have h3 : V 12 = .int .i64 (ni : Int) := h
       show V' 12 = .int .i64 (ni : Int)
       rw [← h1]
       exact h3
      | 13, hj =>
       obtain rfl := Option.some.inj hj
       have h3 : ∃ P0 r0 P1 r1' P2 r2, V 13 = .tuple #[.agg #[.slice P0 N.ends.length r0, .slice P1 N.ids.length r1', .slice P2 N.inputs.length r2], .bool true] := h
       show ∃ P0 r0 P1 r1' P2 r2, V' 13 = .tuple #[.agg #[.slice P0 N.ends.length r0, .slice P1 N.ids.length r1', .slice P2 N.inputs.length r2], .bool true]
       rw [← h1]
       exact h3
      | 14, hj =>
       obtain rfl := Option.some.inj hj
       have h213 := h2 _ rfl 13 (by decide +kernel)
       have h3 : V 14 = V 13 ∧ ∃ P0 r0 P1 r1' P2 r2, V 13 = .tuple #[.agg #[.slice P0 N.ends.length r0, .slice P1 N.ids.length r1', .slice P2 N.inputs.length r2], .bool true] := h
       show V' 14 = V' 13 ∧ ∃ P0 r0 P1 r1' P2 r2, V' 13 = .tuple #[.agg #[.slice P0 N.ends.length r0, .slice P1 N.ids.length r1', .slice P2 N.inputs.length r2], .bool true]
       rw [← h1, ← h213]
       exact h3
      | 15, hj =>
       obtain rfl := Option.some.inj hj
       have h214 := h2 _ rfl 14 (by decide +kernel)
       have h3 : V 14 = .tuple #[V 15, .bool true] ∧ ∃ P0 r0 P1 r1' P2 r2, V 15 = .agg #[.slice P0 N.ends.length r0, .slice P1 N.ids.length r1', .slice P2 N.inputs.length r2] := h
       show V' 14 = .tuple #[V' 15, .bool true] ∧ ∃ P0 r0 P1 r1' P2 r2, V' 15 = .agg #[.slice P0 N.ends.length r0, .slice P1 N.ids.length r1', .slice P2 N.inputs.length r2]
       rw [← h1, ← h214]
       exact h3
      | 16, hj =>
       obtain rfl := Option.some.inj hj
       have h3 : V 16 = .bool true := h
       show V' 16 = .bool true
       rw [← h1]
       exact h3
      | 17, hj =>
       obtain rfl := Option.some.inj hj
       have h3 : ∃ b, V 17 = .pointer (some ⟨b, 0, none⟩) ∧ BoxN W b (.slice none 0 0) (.slice none 0 0) (.slice none 0 0) := h
       show ∃ b, V' 17 = .pointer (some ⟨b, 0, none⟩) ∧ BoxN W b (.slice none 0 0) (.slice none 0 0) (.slice none 0 0)
       rw [← h1]
       exact h3
      | 18, hj =>
       obtain rfl := Option.some.inj hj
       trivial
      | j + 19, hj => simp at hj
     ·intro i o hi his ho D V W hW hd hnD hGG
      match i, ho with
      | 0, ho =>
       cases ho
       clear hd hi his
       refine ⟨rfl, ?_⟩
       simp only [putAll, zR19, List.getElem?_toArray, List.getElem?_cons_succ, List.getElem?_cons_zero]
       (try simp only [zA])
       refine dstep_val (u := .agg #[.slice A0 NA.ends.length a0, .slice A1' NA.ids.length a1', .slice A2' NA.inputs.length a2']) (W' := W) (by go_simp) ⟨since_refl _, ?_, GI.skip hO hGG (since_refl _) (by decide) _⟩
       exact upd_self V 0 _
      | 1, ho =>
       cases ho
       clear hd hi his
       refine ⟨rfl, ?_⟩
       simp only [putAll, zR19, List.getElem?_toArray, List.getElem?_cons_succ, List.getElem?_cons_zero]
       (try simp only [zA])
       refine dstep_val (u := .slice (some ⟨bl, off, none⟩) 4 cp) (W' := W) (by go_simp) ⟨since_refl _, ?_, GI.skip hO hGG (since_refl _) (by decide) _⟩
       exact upd_self V 1 _
      | 2, ho =>
       cases ho
       have e1 : V 1 = .slice (some ⟨bl, off, none⟩) 4 cp := hd 1 (by decide +kernel)
       clear hd hi his
       refine ⟨rfl, ?_⟩
       simp only [putAll, zR19, List.getElem?_toArray, List.getElem?_cons_succ, List.getElem?_cons_zero]
       (try simp only [zA])
       refine dstep_val (u := .pointer (some ⟨bl, off, none⟩)) (W' := W) (by go_simp) ⟨since_refl _, ?_, GI.skip hO hGG (since_refl _) (by decide) _⟩
       exact upd_self V 2 _
      | 3, ho =>
       cases ho
       have e2 : V 2 = .pointer (some ⟨bl, off, none⟩) := hd 2 (by decide +kernel)
       clear hd hi his
       refine ⟨rfl, ?_⟩
       simp only [putAll, zR19, List.getElem?_toArray, List.getElem?_cons_succ, List.getElem?_cons_zero]
       (try simp only [zA])
       refine dstep_val (u := .int .i64 (nu : Int)) (W' := W) (by go_simp) ⟨since_refl _, ?_, GI.skip hO hGG (since_refl _) (by decide) _⟩
       exact upd_self V 3 _
      | 4, ho =>
       cases ho
       clear hd hi his
       refine ⟨rfl, ?_⟩
       simp only [putAll, zR19, List.getElem?_toArray, List.getElem?_cons_succ, List.getElem?_cons_zero]
       (try simp only [zA])
       refine dstep_val (u := .slice (some ⟨bl, off, none⟩) 4 cp) (W' := W) (by go_simp) ⟨since_refl _, ?_, GI.skip hO hGG (since_refl _) (by decide) _⟩
       exact upd_self V 4 _
      | 5, ho =>
       cases ho
       have e4 : V 4 = .slice (some ⟨bl, off, none⟩) 4 cp := hd 4 (by decide +kernel)
       clear hd hi his
       refine ⟨rfl, ?_⟩
       simp only [putAll, zR19, List.getElem?_toArray, List.getElem?_cons_succ, List.getElem?_cons_zero]
       (try simp only [zA])
       refine dstep_val (u := .pointer (some ⟨bl, off + 1, none⟩)) (W' := W) (by go_simp) ⟨since_refl _, ?_, GI.skip hO hGG (since_refl _) (by decide) _⟩
       exact upd_self V 5 _
      | 6, ho =>
       cases ho
       have e5 : V 5 = .pointer (some ⟨bl, off + 1, none⟩) := hd 5 (by decide +kernel)
       clear hd hi his
       refine ⟨rfl, ?_⟩
       simp only [putAll, zR19, List.getElem?_toArray, List.getElem?_cons_succ, List.getElem?_cons_zero]
       (try simp only [zA])
       refine dstep_val (u := .int .i64 (ni : Int)) (W' := W) (by go_simp) ⟨since_refl _, ?_, GI.skip hO hGG (since_refl _) (by decide) _⟩
       exact upd_self V 6 _
      | 7, ho =>
       cases ho
       clear hd hi his
       refine ⟨rfl, ?_⟩
       simp only [putAll, zR19, List.getElem?_toArray, List.getElem?_cons_succ, List.getElem?_cons_zero]
       (try simp only [zA])
       refine dstep_val (u := .slice (some ⟨bl, off, none⟩) 4 cp) (W' := W) (by go_simp) ⟨since_refl _, ?_, GI.skip hO hGG (since_refl _) (by decide) _⟩
       exact upd_self V 7 _
      | 8, ho =>
       cases ho
       have e7 : V 7 = .slice (some ⟨bl, off, none⟩) 4 cp := hd 7 (by decide +kernel)
       clear hd hi his
       refine ⟨rfl, ?_⟩
       simp only [putAll, zR19, List.getElem?_toArray, List.getElem?_cons_succ, List.getElem?_cons_zero]
       (try simp only [zA])
       refine dstep_val (u := .pointer (some ⟨bl, off + 2, none⟩)) (W' := W) (by go_simp) ⟨since_refl _, ?_, GI.skip hO hGG (since_refl _) (by decide) _⟩
       exact upd_self V 8 _
      | 9, ho =>
       cases ho
       have e8 : V 8 = .pointer (some ⟨bl, off + 2, none⟩) := hd 8 (by decide +kernel)
       clear hd hi his
       refine ⟨rfl, ?_⟩
       simp only [putAll, zR19, List.getElem?_toArray, List.getElem?_cons_succ, List.getElem?_cons_zero]
       (try simp only [zA])
       refine dstep_val (u := .int .i64 (nx : Int)) (W' := W) (by go_simp) ⟨since_refl _, ?_, GI.skip hO hGG (since_refl _) (by decide) _⟩
       exact upd_self V 9 _
      | 10, ho =>
       cases ho
       clear hd hi his
       refine ⟨rfl, ?_⟩
       simp only [putAll, zR19, List.getElem?_toArray, List.getElem?_cons_succ, List.getElem?_cons_zero]
       (try simp only [zA])
       refine dstep_val (u := .slice (some ⟨bl, off, none⟩) 4 cp) (W' := W) (by go_simp) ⟨since_refl _, ?_, GI.skip hO hGG (since_refl _) (by decide) _⟩
       exact upd_self V 10 _
      | 11, ho =>
       cases ho
       have e10 : V 10 = .slice (some ⟨bl, off, none⟩) 4 cp := hd 10 (by decide +kernel)
       clear hd hi his
       refine ⟨rfl, ?_⟩
       simp only [putAll, zR19, List.getElem?_toArray, List.getElem?_cons_succ, List.getElem?_cons_zero]
       (try simp only [zA])
       refine dstep_val (u := .pointer (some ⟨bl, off + 3, none⟩)) (W' := W) (by go_simp) ⟨since_refl _, ?_, GI.skip hO hGG (since_refl _) (by decide) _⟩
       exact upd_self V 11 _
      | 12, ho =>
       cases ho
       have e11 : V 11 = .pointer (some ⟨bl, off + 3, none⟩) := hd 11 (by decide +kernel)
       clear hd hi his
       refine ⟨rfl, ?_⟩
       simp only [putAll, zR19, List.getElem?_toArray, List.getElem?_cons_succ, List.getElem?_cons_zero]
       (try simp only [zA])
       refine dstep_val (u := .int .i64 (ni : Int)) (W' := W) (by go_simp) ⟨since_refl _, ?_, GI.skip hO hGG (since_refl _) (by decide) _⟩
       exact upd_self V 12 _
      | 13, ho =>
       cases ho
       have e0 : V 0 = .agg #[.slice A0 NA.ends.length a0, .slice A1' NA.ids.length a1', .slice A2' NA.inputs.length a2'] := hd 0 (by decide +kernel)
       have e3 : V 3 = .int .i64 (nu : Int) := hd 3 (by decide +kernel)
       have e6 : V 6 = .int .i64 (ni : Int) := hd 6 (by decide +kernel)
       have e9 : V 9 = .int .i64 (nx : Int) := hd 9 (by decide +kernel)
       have e12 : V 12 = .int .i64 (ni : Int) := hd 12 (by decide +kernel)
       clear hd hi his
       refine ⟨rfl, ?_⟩
       simp only [putAll, zR19, List.getElem?_toArray, List.getElem?_cons_succ, List.getElem?_cons_zero]
       (try simp only [zA])
       have HG := Lib.hid hGG
       have HO := Lib.hid hO
       clear hGG hO
       refine dstep_call (f := 13) (args := #[.agg #[.slice A0 NA.ends.length a0, .slice A1' NA.ids.length a1', .slice A2' NA.inputs.length a2'], .int .i64 (nu : Int), .int .i64 (ni : Int), .int .i64 (nx : Int), .int .i64 (ni : Int)]) (W' := W) (by go_simp) ?_
       refine (HcE2.out W hW).mono ?_
       rintro e W1 ⟨ue, ui, un, S, rfl, ho, hb⟩
       obtain ⟨P0, r0, rfl, -, -, -⟩ := id ho.read.1
       obtain ⟨P1, r1', rfl, -, -, -⟩ := id ho.read.2.1
       obtain ⟨P2, r2, rfl, -, -, -⟩ := id ho.read.2.2
       exact ⟨_, rfl, hb, ⟨P0, r0, P1, r1', P2, r2, upd_self V 13 _⟩, GI.add HO.out HG.out hb hnD (oNt_call ho hW.below.size)⟩
      | 14, ho =>
       cases ho
       have e13 : ∃ P0 r0 P1 r1' P2 r2, V 13 = .tuple #[.agg #[.slice P0 N.ends.length r0, .slice P1 N.ids.length r1', .slice P2 N.inputs.length r2], .bool true] := hd 13 (by decide +kernel)
       clear hd hi his
       refine ⟨rfl, ?_⟩
       simp only [putAll, zR19, List.getElem?_toArray, List.getElem?_cons_succ, List.getElem?_cons_zero]
       (try simp only [zA])
       obtain ⟨P0, r0, P1, r1', P2, r2, hx⟩ := e13
       refine dstep_val (u := .tuple #[.agg #[.slice P0 N.ends.length r0, .slice P1 N.ids.length r1', .slice P2 N.inputs.length r2], .bool true]) (W' := W) (by clear hGG hO; rw [hx]; go_simp) ⟨since_refl _, ⟨?_, P0, r0, P1, r1', P2, r2, ?_⟩, GI.skip hO hGG (since_refl _) (by decide) _⟩
       ·(show upd V 14 _ 14 = upd V 14 _ 13; rw [upd_self, upd_ne V _ (show (13 : Nat) ≠ 14 by decide)]; exact hx.symm)
       ·(show upd V 14 _ 13 = _; rw [upd_ne V _ (show (13 : Nat) ≠ 14 by decide)]; exact hx)
      | 15, ho =>
       cases ho
       have e14 : V 14 = V 13 ∧ ∃ P0 r0 P1 r1' P2 r2, V 13 = .tuple #[.agg #[.slice P0 N.ends.length r0, .slice P1 N.ids.length r1', .slice P2 N.inputs.length r2], .bool true] := hd 14 (by decide +kernel)
       clear hd hi his
       refine ⟨rfl, ?_⟩
       simp only [putAll, zR19, List.getElem?_toArray, List.getElem?_cons_succ, List.getElem?_cons_zero]
       (try simp only [zA])
       obtain ⟨h13, P0, r0, P1, r1', P2, r2, hx⟩ := e14
       rw [hx] at h13
       refine dstep_val (u := .agg #[.slice P0 N.ends.length r0, .slice P1 N.ids.length r1', .slice P2 N.inputs.length r2]) (W' := W) (by clear hGG hO; rw [h13]; go_simp) ⟨since_refl _, ⟨?_, P0, r0, P1, r1', P2, r2, upd_self V 15 _⟩, GI.skip hO hGG (since_refl _) (by decide) _⟩
       show upd V 15 _ 14 = .tuple #[upd V 15 _ 15, _]
       rw [upd_self, upd_ne V _ (show (14 : Nat) ≠ 15 by decide)]
       exact h13
      | 16, ho =>
       cases ho
       have e14 : V 14 = V 13 ∧ ∃ P0 r0 P1 r1' P2 r2, V 13 = .tuple #[.agg #[.slice P0 N.ends.length r0, .slice P1 N.ids.length r1', .slice P2 N.inputs.length r2], .bool true] := hd 14 (by decide +kernel)
       clear hd hi his
       refine ⟨rfl, ?_⟩
       simp only [putAll, zR19, List.getElem?_toArray, List.getElem?_cons_succ, List.getElem?_cons_zero]
       (try simp only [zA])
       obtain ⟨h13, P0, r0, P1, r1', P2, r2, hx⟩ := e14
       rw [hx] at h13
       rw [h13]
       refine dstep_val (u := .bool true) (W' := W) (by go_simp) ⟨since_refl _, ?_, GI.skip hO hGG (since_refl _) (by decide) _⟩
       exact upd_self V 16 _
      | 17, ho =>
       cases ho
       clear hd hi his
       refine ⟨rfl, ?_⟩
       simp only [putAll, zR19, List.getElem?_toArray, List.getElem?_cons_succ, List.getElem?_cons_zero]
       (try simp only [zA])
       refine dstep_val (u := .pointer (some ⟨W.heap.size, 0, none⟩)) (W' := W.alloc nilB) (by clear hGG hO; unfold nilB; go_simp) ⟨since_alloc _ (since_refl _), ⟨_, upd_self V 17 _, boxN_new W⟩, GI.add hO hGG (since_alloc _ (since_refl _)) hnD (oNt_box W hW.below.size)⟩
      | 18, ho =>
       exact absurd rfl his
      | i + 19, ho => omega
     ·intro i o hi his hlate ho V W hW hd
      match i, ho with
      | 0, ho =>
       exact absurd hlate (by decide)
      | 1, ho =>
       exact absurd hlate (by decide)
      | 2, ho =>
       exact absurd hlate (by decide)
      | 3, ho =>
       exact absurd hlate (by decide)
      | 4, ho =>
       exact absurd hlate (by decide)
      | 5, ho =>
       exact absurd hlate (by decide)
      | 6, ho =>
       exact absurd hlate (by decide)
      | 7, ho =>
       exact absurd hlate (by decide)
      | 8, ho =>
       exact absurd hlate (by decide)
      | 9, ho =>
       exact absurd hlate (by decide)
      | 10, ho =>
       exact absurd hlate (by decide)
      | 11, ho =>
       exact absurd hlate (by decide)
      | 12, ho =>
       exact absurd hlate (by decide)
      | 13, ho =>
       exact absurd hlate (by decide)
      | 14, ho =>
       exact absurd hlate (by decide)
      | 15, ho =>
       exact absurd hlate (by decide)
      | 16, ho =>
       cases ho
       have e14 : V 14 = V 13 ∧ ∃ P0 r0 P1 r1' P2 r2, V 13 = .tuple #[.agg #[.slice P0 N.ends.length r0, .slice P1 N.ids.length r1', .slice P2 N.inputs.length r2], .bool true] := hd 14 (by decide +kernel)
       clear hd hi his hlate
       refine ⟨rfl, .bool true, fun X => ?_, upd_self V 16 _, fun X => by simp [upd], fun D hnD hGG => GI.skip hO hGG (since_refl _) (by decide) _⟩
       simp only [putAll, zR19, List.getElem?_toArray, List.getElem?_cons_succ, List.getElem?_cons_zero]
       (try simp only [zA])
       obtain ⟨h13, P0, r0, P1, r1', P2, r2, hx⟩ := e14
       rw [hx] at h13
       rw [h13]
       go_simp
      | 17, ho =>
       exact absurd hlate (by decide)
      | 18, ho =>
       exact absurd hlate (by decide)
      | i + 19, ho => omega
     ·intro o ho
      cases ho
      refine ⟨rfl, fun V W hW hd => ?_⟩
      have e15 : V 14 = .tuple #[V 15, .bool true] ∧ ∃ P0 r0 P1 r1' P2 r2, V 15 = .agg #[.slice P0 N.ends.length r0, .slice P1 N.ids.length r1', .slice P2 N.inputs.length r2] := hd 15 (by decide +kernel)
      have e17 : ∃ b, V 17 = .pointer (some ⟨b, 0, none⟩) ∧ BoxN W b (.slice none 0 0) (.slice none 0 0) (.slice none 0 0) := hd 17 (by decide +kernel)
      clear hd
      refine ⟨rfl, ?_⟩
      simp only [putAll, zR19, List.getElem?_toArray, List.getElem?_cons_succ, List.getElem?_cons_zero]
      (try simp only [zA])
      obtain ⟨b, hb, hh⟩ := e17
      obtain ⟨_, P0, r0, P1, r1', P2, r2, h6⟩ := e15
      obtain ⟨c0, c1, c2, f0, f1, f2⟩ := hh.box.cells
      clear hh
      rw [hb, h6, stN_eq]
      clear hb h6
      go_simp
     intro V W hW hV hGG
     have e0 : V 0 = .agg #[.slice A0 NA.ends.length a0, .slice A1' NA.ids.length a1', .slice A2' NA.inputs.length a2'] := hV 0 (by decide) (by decide)
     have e1 : V 1 = .slice (some ⟨bl, off, none⟩) 4 cp := hV 1 (by decide) (by decide)
     have e2 : V 2 = .pointer (some ⟨bl, off, none⟩) := hV 2 (by decide) (by decide)
     have e3 : V 3 = .int .i64 (nu : Int) := hV 3 (by decide) (by decide)
     have e4 : V 4 = .slice (some ⟨bl, off, none⟩) 4 cp := hV 4 (by decide) (by decide)
     have e5 : V 5 = .pointer (some ⟨bl, off + 1, none⟩) := hV 5 (by decide) (by decide)
     have e6 : V 6 = .int .i64 (ni : Int) := hV 6 (by decide) (by decide)
     have e7 : V 7 = .slice (some ⟨bl, off, none⟩) 4 cp := hV 7 (by decide) (by decide)
     have e8 : V 8 = .pointer (some ⟨bl, off + 2, none⟩) := hV 8 (by decide) (by decide)
     have e9 : V 9 = .int .i64 (nx : Int) := hV 9 (by decide) (by decide)
     have e10 : V 10 = .slice (some ⟨bl, off, none⟩) 4 cp := hV 10 (by decide) (by decide)
     have e11 : V 11 = .pointer (some ⟨bl, off + 3, none⟩) := hV 11 (by decide) (by decide)
     have e12 : V 12 = .int .i64 (ni : Int) := hV 12 (by decide) (by decide)
     have e13 : ∃ P0 r0 P1 r1' P2 r2, V 13 = .tuple #[.agg #[.slice P0 N.ends.length r0, .slice P1 N.ids.length r1', .slice P2 N.inputs.length r2], .bool true] := hV 13 (by decide) (by decide)
     have e14 : V 14 = V 13 ∧ ∃ P0 r0 P1 r1' P2 r2, V 13 = .tuple #[.agg #[.slice P0 N.ends.length r0, .slice P1 N.ids.length r1', .slice P2 N.inputs.length r2], .bool true] := hV 14 (by decide) (by decide)
     have e15 : V 14 = .tuple #[V 15, .bool true] ∧ ∃ P0 r0 P1 r1' P2 r2, V 15 = .agg #[.slice P0 N.ends.length r0, .slice P1 N.ids.length r1', .slice P2 N.inputs.length r2] := hV 15 (by decide) (by decide)
     have e16 : V 16 = .bool true := hV 16 (by decide) (by decide)
     have e17 : ∃ b, V 17 = .pointer (some ⟨b, 0, none⟩) ∧ BoxN W b (.slice none 0 0) (.slice none 0 0) (.slice none 0 0) := hV 17 (by decide) (by decide)
     clear hV
     simp only [putAll, zR19, List.getElem?_toArray, List.getElem?_cons_succ, List.getElem?_cons_zero]
     (try simp only [zA])
     simp only [List.drop_succ_cons, List.drop_zero]
     obtain ⟨I, hI1, hI2⟩ := hGG
     have oc := (hI1 13 (by decide) ⟨by decide, by decide⟩).1
     have ob := (hI1 17 (by decide) ⟨by decide, by decide⟩).1
     obtain ⟨PC, C0', c0', C1', c1', C2', c2', hp, hu, hSf, hIn, hBox⟩ := nt_stored hW oc ob (hI2 13 (by decide) 17 (by decide) (by decide) ⟨by decide, by decide⟩ ⟨by decide, by decide⟩)
     have hv := e15.1
     rw [e14.1, hu] at hv
     have hv7 : V 15 = .agg #[.slice C0' N.ends.length c0', .slice C1' N.ids.length c1', .slice C2' N.inputs.length c2'] := by simpa using hv.symm
     rw [hp, hv7]
     obtain ⟨w10, hw10⟩ : ∃ z, z = stN (.pointer (some ⟨PC, 0, none⟩)) (.agg #[.slice C0' N.ends.length c0', .slice C1' N.ids.length c1', .slice C2' N.inputs.length c2']) W := ⟨_, rfl⟩
     have hw10' : set3 W PC (.slice C0' N.ends.length c0') (.slice C1' N.ids.length c1') (.slice C2' N.inputs.length c2') = w10 := hw10.symm
     rw [hw10'] at hSf hIn hBox
     rw [← hw10]
     have HB10 := Lib.hid hIn
     have Hs10 : Hid (Since wr w10) := HW8.out.after hSf
     have HBb := Lib.hid (And.intro (have_cell hBox.cells.1) (And.intro (have_cell hBox.cells.2.1) (have_cell hBox.cells.2.2.1)))
     rw [e16]
     have Hs810 : Hid (Since w8 w10) := hSf
     clear e0 e1 e2 e3 e4 e5 e6 e7 e8 e9 e10 e11 e12 e13 e14 e15 e16 e17 hu hp hv hv7 oc ob hI1 hI2 hSf hIn hBox hw10' hw10 hW hO
     have E0 := HBb.out.1
     have E1 := HBb.out.2.1
     have E2 := HBb.out.2.2
     clear K0 K1 K2 K3 B0 B1 B2
     go_upto_region 15 with (fail)
     refine wp_region_flow0 20 (Since w10) (since_refl _) ?_
     simp only [List.take_succ_cons, List.take_zero, List.drop_succ_cons, List.drop_zero]
     refine flow_val (v := ?_) rfl ?_ ?_; rotate_left; (intro W hW; go_simp; with_reducible rfl)
     simp only [zA]
     refine flow_val (v := ?_) rfl ?_ ?_; rotate_left; (intro W hW; go_simp; with_reducible rfl)
     simp only [zA]
     refine flow_val (v := ?_) rfl ?_ ?_; rotate_left; (intro W hW; go_simp; with_reducible rfl)
     simp only [zA]
     refine flow_gval (v := ?_) rfl rfl ?_ ?_; rotate_left; (intro hb; intro W hW; go_simp; with_reducible rfl)
     simp only [zA]
     refine flow_gval (v := ?_) rfl rfl ?_ ?_; rotate_left; (intro hb; intro W hW; go_simp; with_reducible rfl)
     simp only [zA]
     first | refine flow_or rfl rfl ?_ | (refine flow_val (v := ?_) rfl ?_ ?_; rotate_left; (intro W hW; go_simp; with_reducible rfl))
     simp only [zA]
     refine flow_val (v := ?_) rfl ?_ ?_; rotate_left; (intro W hW; go_simp; with_reducible rfl)
     simp only [zA]
     refine flow_gval (v := ?_) rfl rfl ?_ ?_; rotate_left; (intro hb; intro W hW; go_simp; with_reducible rfl)
     simp only [zA]
     refine flow_gval (v := ?_) rfl rfl ?_ ?_; rotate_left; (intro hb; intro W hW; go_simp; with_reducible rfl)
     simp only [zA]
     first | refine flow_or rfl rfl ?_ | (refine flow_val (v := ?_) rfl ?_ ?_; rotate_left; (intro W hW; go_simp; with_reducible rfl))
     simp only [zA]
     refine flow_val (v := ?_) rfl ?_ ?_; rotate_left; (intro W hW; go_simp; with_reducible rfl)
     simp only [zA]
     refine flow_gval (v := ?_) rfl rfl ?_ ?_; rotate_left; (intro hb; intro W hW; go_simp; with_reducible rfl)
     simp only [zA]
     refine flow_gval (v := ?_) rfl rfl ?_ ?_; rotate_left; (intro hb; intro W hW; go_simp; with_reducible rfl)
     simp only [zA]
     first | refine flow_or rfl rfl ?_ | (refine flow_val (v := ?_) rfl ?_ ?_; rotate_left; (intro W hW; go_simp; with_reducible rfl))
     simp only [zA]
     refine flow_val (v := ?_) rfl ?_ ?_; rotate_left; (intro W hW; go_simp; with_reducible rfl)
     simp only [zA]
     refine flow_gval (v := ?_) rfl rfl ?_ ?_; rotate_left; (intro hb; intro W hW; (have k1 := E0 W hW; have k2 := E1 W hW; have k3 := E2 W hW); go_simp; with_reducible rfl)
     simp only [zA]
     refine flow_gval (v := ?_) rfl rfl ?_ ?_; rotate_left; (intro hb; intro W hW; (have k1 := HZ.out.1 W (Hs10.out.after hW); have k2 := HZ.out.2.1 W (Hs10.out.after hW); have k3 := HZ.out.2.2 W (Hs10.out.after hW)); go_simp; with_reducible rfl)
     simp only [zA]
     refine flow_gop (v := ?_) rfl rfl ?_ ?_; rotate_left; (intro hb; intro W hW; unfold Gives; go_simp; (with_reducible refine (pSameNet_same _ _ _ _ _ _ N W (HB10.out.keep hW.below) (HN.out W ((Hsr.out.after Hs10.out).after hW))).mono ?_); rintro e W' ⟨rfl, hb3⟩; first | (refine ⟨?_, Since.trans hW hb3⟩; with_reducible rfl) | (subst hb3; refine ⟨?_, hW⟩; with_reducible rfl))
     simp only [zA]
     refine flow_gval (v := ?_) rfl rfl ?_ ?_; rotate_left; (intro hb; intro W hW; go_simp; with_reducible rfl)
     simp only [zA]
     first | refine flow_or rfl rfl ?_ | (refine flow_val (v := ?_) rfl ?_ ?_; rotate_left; (intro W hW; go_simp; with_reducible rfl))
     simp only [zA]
     intro W11 hW11
     have Hs11 := Lib.hid (Hs10.out.after hW11)
     have Hs811 := Lib.hid (Hs810.out.after hW11)
     clear E0 E1 E2 hW11
     go_upto_region 18 with (fail)
     go_loopw [19] (fun t wr => ∃ sc : Nat, 1 ≤ sc ∧ sc ≤ 6 ∧ t = .int .i64 sc ∧ Since W11 wr) (fun t _ => 6 - (intOf t).toNat)
     case atStart => exact ⟨1, by omega, by omega, by first | rfl | go_num, since_refl _⟩
     case round =>
      obtain ⟨sc, hs1, hs6, rfl, hsc⟩ := hrel
      have Hsc := Lib.hid hsc
      clear hsc
      by_cases hle : sc ≤ 5
      ·have e9 : ((sc : Int) ≤ 5) = True := by simp; omega
       have m4 : IntKind.i64.wrap ((sc : Int) + 1) = (sc : Int) + 1 := wr64 _ (by omega) (by omega)
       have p0 := HP0.out wr ((Hsr.out.after Hs11.out).after Hsc.out)
       have p1 := HP1.out wr ((Hsr.out.after Hs11.out).after Hsc.out)
       have p2 := HP2.out wr ((Hsr.out.after Hs11.out).after Hsc.out)
       go_wp2_with fail
       refine (fnExactRejectingNodes_impl _ _ _ N sc _ ls wr (HN.out wr ((Hsr.out.after Hs11.out).after Hsc.out)) (by omega) (HI.out wr ((Hsr.out.after Hs11.out).after Hsc.out)) Hsz.out hbl).mono ?_
       rintro e w12 ⟨u1, rfl, ho1, hb1⟩
       obtain ⟨F1, f1', rfl, -, -, -⟩ := id ho1.ints
       have Hs12 := Lib.hid (Hsc.out.after (show Since wr w12 from hb1))
       have Ho1 := Lib.hid ho1
       clear p0 p1 p2 ho1 hb1
       have p0 := HBa.out.1 w12 (Hs811.out.after Hs12.out)
       have p1 := HBa.out.2.1 w12 (Hs811.out.after Hs12.out)
       have p2 := HBa.out.2.2 w12 (Hs811.out.after Hs12.out)
       have hcc := fnExactRejectingNodes_impl _ _ _ NA sc _ ls w12 (HA8.out.keep (Hs811.out.after Hs12.out).below) (by omega) (HI.out w12 ((Hsr.out.after Hs11.out).after Hs12.out)) Hsz2.out hbl
       have hsm := reject_same HHX.out (sc : Int)
       rw [← HNA.out] at hsm
       rw [hsm.1, hsm.2] at hcc
       have Hcc := Lib.hid hcc
       clear hcc hsm
       go_wp2_with fail
       refine Hcc.out.mono ?_
       rintro e w13 ⟨u2, rfl, ho2, hb2⟩
       obtain ⟨F2, f2', rfl, -, -, -⟩ := id ho2.ints
       have Hs13 := Lib.hid (Hs12.out.after (show Since w12 w13 from hb2))
       have Ho2 := Lib.hid ho2
       have Ho1b := Lib.hid (Own.since Ho1.out (show Since w12 w13 from hb2))
       clear p0 p1 p2 ho2 hb2
       go_upto_region 22 with (fail)
       refine wp_region_flow0 9 (Since w13) (since_refl _) ?_
       simp only [List.take_succ_cons, List.take_zero, List.drop_succ_cons, List.drop_zero]
       refine flow_val (v := ?_) rfl ?_ ?_; rotate_left; (intro W hW; go_simp; with_reducible rfl)
       simp only [zA]
       refine flow_val (v := ?_) rfl ?_ ?_; rotate_left; (intro W hW; go_simp; with_reducible rfl)
       simp only [zA]
       refine flow_val (v := ?_) rfl ?_ ?_; rotate_left; (intro W hW; go_simp; with_reducible rfl)
       simp only [zA]
       refine flow_val (v := ?_) rfl ?_ ?_; rotate_left; (intro W hW; go_simp; with_reducible rfl)
       simp only [zA]
       refine flow_gval (v := ?_) rfl rfl ?_ ?_; rotate_left; (intro hb; intro W hW; go_simp; with_reducible rfl)
       simp only [zA]
       refine flow_gval (v := ?_) rfl rfl ?_ ?_; rotate_left; (intro hb; intro W hW; go_simp; with_reducible rfl)
       simp only [zA]
       refine flow_gop (v := ?_) rfl rfl ?_ ?_; rotate_left; (intro hb; intro W hW; unfold Gives; go_simp; (with_reducible refine (sameInts_same _ _ _ W (Own.since Ho1b.out hW).ints (Own.since Ho2.out hW).ints).mono ?_); rintro e W' ⟨rfl, hb3⟩; first | (refine ⟨?_, Since.trans hW hb3⟩; with_reducible rfl) | (subst hb3; refine ⟨?_, hW⟩; with_reducible rfl))
       simp only [zA]
       refine flow_gval (v := ?_) rfl rfl ?_ ?_; rotate_left; (intro hb; intro W hW; go_simp; with_reducible rfl)
       simp only [zA]
       first | refine flow_or rfl rfl ?_ | (refine flow_val (v := ?_) rfl ?_ ?_; rotate_left; (intro W hW; go_simp; with_reducible rfl))
       simp only [zA]
       intro W14 hW14
       have Hs14 := Lib.hid (Hs13.out.after hW14)
       clear hW14
       go_wp2
       go_roundw
       case rel => exact ⟨sc + 1, by omega, by omega, by first | rfl | go_num, Hs14.out⟩
       case measure => simp [intOf]; omega
      ·have e9 : ((sc : Int) ≤ 5) = False := by simp; omega
       have HsA := Lib.hid ((Hsr.out.after Hs11.out).after Hsc.out)
       have HsB := Lib.hid ((Hsr3.out.after Hs11.out).after Hsc.out)
       go_wp2
       go_roundw
       case rel => exact ⟨k + 1, by omega, by first | rfl | go_num, HsA.out, HsB.out⟩
       case measure => simp [intOf]; omega
   ·obtain rfl : k = RL.length := by omega
    clear hlt hk
    go_wp2_with fail
    go_meet
    case rel => exact Hsr.out
 case rest =>
  have Hc := Lib.hid (show Since w2 wc from hcut)
  have hwc : Below w.heap.size w wc := Below.trans Hww.out (Hc.out.below.mono Hww.out.size)
  have Hwc := Lib.hid hwc
  clear hcut hwc hs5
  go_wp2_with fail
  refine (drawCrossEdges_any _ L2 wc (H2.out.keep Hwc.out) hL.2).mono ?_
  rintro e w5 ⟨ve, vi, vn, M, SM, v, i, x, j, rfl, ho, hbdM, ⟨b1, b2, b3, b4⟩, hb5⟩
  obtain ⟨X0, x0, rfl, -, -, -⟩ := id ho.read.1
  obtain ⟨X1, x1, rfl, -, -, -⟩ := id ho.read.2.1
  obtain ⟨X2, x2, rfl, -, -, -⟩ := id ho.read.2.2
  have hM5 := ho.read
  obtain ⟨w6, hw6⟩ : ∃ z, z = w5.alloc (.cells #[.slice X0 M.ends.length x0, .slice X1 M.ids.length x1, .slice X2 M.inputs.length x2] 27) := ⟨_, rfl⟩
  obtain ⟨pm, hpm⟩ : ∃ z, z = w5.heap.size := ⟨_, rfl⟩
  have hsw6 : Since w5 w6 := by rw [hw6]; exact since_alloc _ (since_refl _)
  have hbxw6 : Box3 w6 pm (.slice X0 M.ends.length x0) (.slice X1 M.ids.length x1) (.slice X2 M.inputs.length x2) := by rw [hw6, hpm]; exact Box3.new _ _ _ _ _
  have Hw6 := Lib.hid hw6
  have Hpm := Lib.hid hpm
  have Bw60 := have_cell hbxw6.cells.1
  have Bw61 := have_cell hbxw6.cells.2.1
  have Bw62 := have_cell hbxw6.cells.2.2.1
  have HBw6 := Lib.hid (And.intro Bw60 (And.intro Bw61 Bw62))
  clear hw6 hpm hbxw6 Bw60 Bw61 Bw62
  have HM6 := Lib.hid (hM5.keep hsw6.below)
  have Hs6 : Hid (Below w.heap.size w w6) := Below.trans Hwc.out ((Below.trans hb5 (hsw6.below.mono hb5.size)).mono Hwc.out.size)
  have HszM := Lib.hid hbdM.small.sz
  have hidM := hbdM.ids
  have c1 : -9223372036854775808 ≤ v ∧ v ≤ 9223372036854775807 := by omega
  have c2 : -9223372036854775808 ≤ i ∧ i ≤ 9223372036854775807 := by omega
  have c3 : -9223372036854775808 ≤ x ∧ x ≤ 9223372036854775807 := by omega
  have c4 : -9223372036854775808 ≤ j ∧ j ≤ 9223372036854775807 := by omega
  obtain ⟨NC, hNC⟩ : ∃ z, z = fnExactCrossEdges_d M v i x j := ⟨_, rfl⟩
  obtain ⟨rc, hrc⟩ : ∃ z, z = fnExactCrossEdges_r1 M v i x j := ⟨_, rfl⟩
  have hs6 : Since w6 w6 := since_refl _
  have hca := fnExactCrossEdges_impl _ _ _ M v i x j w6 HM6.out c1 c2 c3 c4 HszM.out
  rw [← hNC, ← hrc] at hca
  have Hca := Lib.hid hca
  have HNC := Lib.hid hNC
  have Hrc := Lib.hid hrc
  clear ho hM5 hb5 hsw6 hbdM b1 b2 b3 b4 hca hNC hrc
  go_upto_region 26 with (fail)
  rw [← Hw6.out, ← Hpm.out]
  have p0 := HBw6.out.1 w6 hs6
  have p1 := HBw6.out.2.1 w6 hs6
  have p2 := HBw6.out.2.2 w6 hs6
  go_wp2_with fail
  refine Hca.out.mono ?_
  rintro e w7 ⟨ue, ui, un, Sa, rfl, hoa, hb7⟩
  obtain ⟨Y0, y0, rfl, -, -, -⟩ := id hoa.read.1
  obtain ⟨Y1, y1, rfl, -, -, -⟩ := id hoa.read.2.1
  obtain ⟨Y2, y2, rfl, -, -, -⟩ := id hoa.read.2.2
  have hA7 := hoa.read
  obtain ⟨w8, hw8⟩ : ∃ z, z = w7.alloc (.cells #[.slice Y0 NC.ends.length y0, .slice Y1 NC.ids.length y1, .slice Y2 NC.inputs.length y2] 27) := ⟨_, rfl⟩
  obtain ⟨pa, hpa⟩ : ∃ z, z = w7.heap.size := ⟨_, rfl⟩
  have hsw8 : Since w7 w8 := by rw [hw8]; exact since_alloc _ (since_refl _)
  have hbxw8 : Box3 w8 pa (.slice Y0 NC.ends.length y0) (.slice Y1 NC.ids.length y1) (.slice Y2 NC.inputs.length y2) := by rw [hw8, hpa]; exact Box3.new _ _ _ _ _
  have Hw8 := Lib.hid hw8
  have Hpa := Lib.hid hpa
  have Bw80 := have_cell hbxw8.cells.1
  have Bw81 := have_cell hbxw8.cells.2.1
  have Bw82 := have_cell hbxw8.cells.2.2.1
  have HBw8 := Lib.hid (And.intro Bw80 (And.intro Bw81 Bw82))
  clear hw8 hpa hbxw8 Bw80 Bw81 Bw82
  have HA8 := Lib.hid (hA7.keep hsw8.below)
  have Hs68 := Lib.hid ((show Since w6 w7 from hb7).after hsw8)
  have hcs := fnExactCrossEdges_spec _ _ _ M v i x j w8 (HM6.out.keep Hs68.out.below) c1 c2 c3 c4 HszM.out
  rw [← HNC.out, ← Hrc.out] at hcs
  have Hcs := Lib.hid hcs
  clear hoa hA7 hb7 hsw8 hcs p0 p1 p2
  go_upto_region 27 with (fail)
  rw [← Hw8.out, ← Hpa.out]
  have p0 := HBw6.out.1 w8 Hs68.out
  have p1 := HBw6.out.2.1 w8 Hs68.out
  have p2 := HBw6.out.2.2 w8 Hs68.out
  go_wp2_with fail
  refine Hcs.out.mono ?_
  rintro e w9 ⟨ue, ui, un, Sb, rfl, hob, hb9⟩
  obtain ⟨Z0, z0, rfl, -, -, -⟩ := id hob.read.1
  obtain ⟨Z1, z1, rfl, -, -, -⟩ := id hob.read.2.1
  obtain ⟨Z2, z2, rfl, -, -, -⟩ := id hob.read.2.2
  have hB9 := hob.read
  obtain ⟨wA, hwA⟩ : ∃ z, z = w9.alloc (.cells #[.slice Z0 NC.ends.length z0, .slice Z1 NC.ids.length z1, .slice Z2 NC.inputs.length z2] 27) := ⟨_, rfl⟩
  obtain ⟨pc, hpc⟩ : ∃ z, z = w9.heap.size := ⟨_, rfl⟩
  have hswA : Since w9 wA := by rw [hwA]; exact since_alloc _ (since_refl _)
  have hbxwA : Box3 wA pc (.slice Z0 NC.ends.length z0) (.slice Z1 NC.ids.length z1) (.slice Z2 NC.inputs.length z2) := by rw [hwA, hpc]; exact Box3.new _ _ _ _ _
  have HwA := Lib.hid hwA
  have Hpc := Lib.hid hpc
  have BwA0 := have_cell hbxwA.cells.1
  have BwA1 := have_cell hbxwA.cells.2.1
  have BwA2 := have_cell hbxwA.cells.2.2.1
  have HBwA := Lib.hid (And.intro BwA0 (And.intro BwA1 BwA2))
  clear hwA hpc hbxwA BwA0 BwA1 BwA2
  have HBA := Lib.hid (hB9.keep hswA.below)
  have Hs8A := Lib.hid ((show Since w8 w9 from hb9).after hswA)
  clear hob hB9 hb9 hswA p0 p1 p2
  go_upto_region 28 with (fail)
  rw [← HwA.out, ← Hpc.out]
  refine wp_region_flow0 9 (Since wA) (since_refl _) ?_
  simp only [List.take_succ_cons, List.take_zero, List.drop_succ_cons, List.drop_zero]
  refine flow_val (v := ?_) rfl ?_ ?_; rotate_left; (intro W hW; go_simp; with_reducible rfl)
  simp only [zA]
  refine flow_val (v := ?_) rfl ?_ ?_; rotate_left; (intro W hW; go_simp; with_reducible rfl)
  simp only [zA]
  refine flow_val (v := ?_) rfl ?_ ?_; rotate_left; (intro W hW; go_simp; with_reducible rfl)
  simp only [zA]
  refine flow_val (v := ?_) rfl ?_ ?_; rotate_left; (intro W hW; go_simp; with_reducible rfl)
  simp only [zA]
  refine flow_gval (v := ?_) rfl rfl ?_ ?_; rotate_left; (intro hb; intro W hW; (have k1 := HBw8.out.1 W (Hs8A.out.after hW); have k2 := HBw8.out.2.1 W (Hs8A.out.after hW); have k3 := HBw8.out.2.2 W (Hs8A.out.after hW)); go_simp; with_reducible rfl)
  simp only [zA]
  refine flow_gval (v := ?_) rfl rfl ?_ ?_; rotate_left; (intro hb; intro W hW; (have k1 := HBwA.out.1 W hW; have k2 := HBwA.out.2.1 W hW; have k3 := HBwA.out.2.2 W hW); go_simp; with_reducible rfl)
  simp only [zA]
  refine flow_gop (v := ?_) rfl rfl ?_ ?_; rotate_left; (intro hb; intro W hW; unfold Gives; go_simp; (with_reducible refine (pSameNet_same _ _ _ _ _ _ NC W (HA8.out.keep (Hs8A.out.after hW).below) (HBA.out.keep hW.below)).mono ?_); rintro e W' ⟨rfl, hb3⟩; first | (refine ⟨?_, Since.trans hW hb3⟩; with_reducible rfl) | (subst hb3; refine ⟨?_, hW⟩; with_reducible rfl))
  simp only [zA]
  refine flow_gval (v := ?_) rfl rfl ?_ ?_; rotate_left; (intro hb; intro W hW; go_simp; with_reducible rfl)
  simp only [zA]
  first | refine flow_or rfl rfl ?_ | (refine flow_val (v := ?_) rfl ?_ ?_; rotate_left; (intro W hW; go_simp; with_reducible rfl))
  simp only [zA]
  intro WB hWB
  have Hs8B := Lib.hid (Hs8A.out.after hWB)
  have Hs6B := Lib.hid (Hs68.out.after Hs8B.out)
  clear hWB
  cases rc
  ·have HbB : Hid (Below w.heap.size w WB) := Below.trans Hs6.out (Hs6B.out.below.mono Hs6.out.size)
   go_wp2
   go_ret
   exact ⟨rfl, HbB.out⟩
  ·have hok : crossEOk M v i x j = true := Hrc.out.symm
   have hmx := mayX_of (p := (v, i)) (q := (x, j)) hok
   have hNCe : NC = crossN M (v, i) (x, j) := by rw [HNC.out]; exact cross_d hok
   have hdg : degL NC = degL M := by rw [hNCe]; exact deg_same hmx
   have hnM : netOk M = true := hmx.ok
   have hnC : netOk NC = true := by rw [hNCe]; exact hmx.ok2
   have hidC : NC.ids.length ≤ 17592186044416 := by rw [hNCe]; show M.ids.length ≤ _; omega
   have hd1 := degreesOf_any _ _ _ M WB (HM6.out.keep Hs6B.out.below) (by omega)
   rw [hnM, if_pos rfl] at hd1
   have Hd1 := Lib.hid hd1
   have HnC := Lib.hid hnC
   have Hdg := Lib.hid hdg
   clear hd1 hok hmx hNCe hdg hnM hnC
   have p0 := HBw6.out.1 WB Hs6B.out
   have p1 := HBw6.out.2.1 WB Hs6B.out
   have p2 := HBw6.out.2.2 WB Hs6B.out
   go_wp2_with fail
   refine Hd1.out.mono ?_
   rintro e wC ⟨u1, rfl, ho1, hbC⟩
   obtain ⟨F1, f1', rfl, -, -, -⟩ := id ho1.ints
   have hsBC : Since WB wC := hbC
   have hd2 := degreesOf_any _ _ _ NC wC (HA8.out.keep (Hs8B.out.after hsBC).below) hidC
   rw [HnC.out, if_pos rfl, Hdg.out] at hd2
   have Hd2 := Lib.hid hd2
   have Ho1 := Lib.hid ho1
   have HsBC := Lib.hid hsBC
   clear hd2 ho1 hsBC hbC p0 p1 p2
   have p0 := HBw8.out.1 wC (Hs8B.out.after HsBC.out)
   have p1 := HBw8.out.2.1 wC (Hs8B.out.after HsBC.out)
   have p2 := HBw8.out.2.2 wC (Hs8B.out.after HsBC.out)
   go_wp2_with fail
   refine Hd2.out.mono ?_
   rintro e wD ⟨u2, rfl, ho2, hbD⟩
   obtain ⟨F2, f2', rfl, -, -, -⟩ := id ho2.ints
   have HsCD : Hid (Since wC wD) := hbD
   have Ho2 := Lib.hid ho2
   clear ho2 hbD p0 p1 p2
   go_upto_region 33 with (fail)
   refine wp_region_flow0 9 (Since wD) (since_refl _) ?_
   simp only [List.take_succ_cons, List.take_zero, List.drop_succ_cons, List.drop_zero]
   refine flow_val (v := ?_) rfl ?_ ?_; rotate_left; (intro W hW; go_simp; with_reducible rfl)
   simp only [zA]
   refine flow_val (v := ?_) rfl ?_ ?_; rotate_left; (intro W hW; go_simp; with_reducible rfl)
   simp only [zA]
   refine flow_gval (v := ?_) rfl rfl ?_ ?_; rotate_left; (intro hb; intro W hW; go_simp; with_reducible rfl)
   simp only [zA]
   first | refine flow_and rfl rfl ?_ | (refine flow_val (v := ?_) rfl ?_ ?_; rotate_left; (intro W hW; go_simp; with_reducible rfl))
   simp only [zA]
   refine flow_val (v := ?_) rfl ?_ ?_; rotate_left; (intro W hW; go_simp; with_reducible rfl)
   simp only [zA]
   refine flow_gval (v := ?_) rfl rfl ?_ ?_; rotate_left; (intro hb; intro W hW; go_simp; with_reducible rfl)
   simp only [zA]
   refine flow_gval (v := ?_) rfl rfl ?_ ?_; rotate_left; (intro hb; intro W hW; go_simp; with_reducible rfl)
   simp only [zA]
   refine flow_gop (v := ?_) rfl rfl ?_ ?_; rotate_left; (intro hb; intro W hW; unfold Gives; go_simp; (with_reducible refine (sameInts_same _ _ _ W (Own.since Ho1.out (HsCD.out.after hW)).ints (Own.since Ho2.out hW).ints).mono ?_); rintro e W' ⟨rfl, hb3⟩; first | (refine ⟨?_, Since.trans hW hb3⟩; with_reducible rfl) | (subst hb3; refine ⟨?_, hW⟩; with_reducible rfl))
   simp only [zA]
   first | refine flow_and rfl rfl ?_ | (refine flow_val (v := ?_) rfl ?_ ?_; rotate_left; (intro W hW; go_simp; with_reducible rfl))
   simp only [zA]
   intro WE hWE
   have HbE : Hid (Below w.heap.size w WE) := Below.trans Hs6.out ((((Hs6B.out.after HsBC.out).after HsCD.out).after hWE).below.mono Hs6.out.size)
   clear hWE
   go_wp2
   go_ret
   exact ⟨rfl, HbE.out⟩
end Go.Proofs.YtgmdpppljkmabaaGreat
