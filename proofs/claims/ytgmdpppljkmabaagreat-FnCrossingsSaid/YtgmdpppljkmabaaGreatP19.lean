/- Parts of the proof: walks of functions and plain laws. -/
import Derived.Test.YtgmdpppljkmabaaGreatP0
import Derived.Test.YtgmdpppljkmabaaGreatP18
namespace Go.Proofs.YtgmdpppljkmabaaGreat
open Go Go.RowKit
def NewSh (w : World) (n : Net) (e : Ending) (w' : World) : Prop := ∃ N, SameSh n N ∧ WfN N ∧ NewNet w N e w'
set_option maxRecDepth 100000 in
set_option maxHeartbeats 8000000 in
theorem nePorts_any (ve vi vn vp : Value) (n : Net) (v : Nat) (xs : List Int) (w : World) (h : NetIn w ve vi vn n) (hv : v < n.ends.length) (hn : SmallN n) (hwf : WfN n) (hp : IntS w vp xs) (hpl : xs.length = (rowN n v).length) (hpb : Below0 (rowN n v).length xs) :
  Calls Tryz.prog 208 #[.agg #[ve, vi, vn], .int .i64 v, vp] w (NewSh w n) := by
 obtain ⟨xv, hxe⟩ : ∃ x, x = rowN n v := ⟨_, rfl⟩
 rw [← hxe] at hpl hpb
 have hxv := rowN_get hv
 rw [← hxe] at hxv
 have Hpb := Lib.hid hpb
 have Hpl := Lib.hid hpl
 have HXV := Lib.hid hxv
 have HNs := Lib.hid hn
 have Hwf := Lib.hid hwf
 have Hxl : Hid (xv.length ≤ 1000) := hn.row _ _ hxv
 clear hn hwf hxv hxe hpl hpb
 obtain ⟨AP, cP, rfl, hlP, hmP, -⟩ := id hp
 obtain ⟨w0, hw0⟩ : ∃ w0, w0 = (w).alloc (.cells #[ve, vi, vn] 27) := ⟨_, rfl⟩
 have hb0 : Below w.heap.size w w0 := by rw [hw0]; exact ((Below.refl _ _).alloc (by simp) _)
 have H := Lib.hid (h.keep hb0)
 obtain ⟨h1, h2, h3⟩ := h.keep hb0
 obtain ⟨A, c, rfl, hlc, hm, hA⟩ := h1
 obtain ⟨A2, c2, rfl, _, hm2, _⟩ := h2
 obtain ⟨A3, c3, rfl, _, hm3, _⟩ := h3
 unfold maxLen at hm hm2 hm3
 have p00 : ∀ W, Since w0 W → W.cell? ⟨w.heap.size, 0, none⟩ = some (.slice A n.ends.length c) := have_cell (by rw [hw0]; simp)
 have p01 : ∀ W, Since w0 W → W.cell? ⟨w.heap.size, 1, none⟩ = some (.slice A2 n.ids.length c2) := have_cell (by rw [hw0]; simp)
 have p02 : ∀ W, Since w0 W → W.cell? ⟨w.heap.size, 2, none⟩ = some (.slice A3 n.inputs.length c3) := have_cell (by rw [hw0]; simp)
 have Hb0 := Lib.hid hb0
 have Hw0 := Lib.hid hw0
 have HA := Lib.hid hA
 clear hA h
 clear hb0 hw0
 obtain ⟨wa, hwa⟩ : ∃ wa, wa = w0.alloc (.cells #[.slice none 0 0, .slice none 0 0, .slice none 0 0] 27) := ⟨_, rfl⟩
 have hsa : Since w0 wa := by rw [hwa]; exact since_alloc _ (since_refl _)
 have h01 : w0.heap.size = w.heap.size + 1 := by rw [Hw0.out]; simp
 have Hza : Hid (wa.heap.size = w.heap.size + 1 + 1) := by show _ = _; rw [hwa, ← h01]; simp
 have HRb : Hid (∀ X, Since wa X → BoxN X (w.heap.size + 1) (.slice none 0 0) (.slice none 0 0) (.slice none 0 0)) := fun X hX => by
  refine BoxN.since (W := wa) ?_ hX
  rw [hwa, ← h01]
  show (w0.heap.push _)[w0.heap.size]? = _
  rw [Array.getElem?_push_size]
 have HP := Lib.hid (show ∀ X, Since wa X → IntS X (.slice AP xs.length cP) xs from fun X hX => (hp.keep Hb0.out).keep (hsa.after hX).below)
 have HN := Lib.hid (show ∀ X, Since wa X → NetIn X (.slice A n.ends.length c) (.slice A2 n.ids.length c2) (.slice A3 n.inputs.length c3) n from fun X hX => H.out.keep (hsa.after hX).below)
 have q00 := lift_cell p00 hsa
 have q01 := lift_cell p01 hsa
 have q02 := lift_cell p02 hsa
 have Hwa := Lib.hid hwa
 have Hsa := Lib.hid hsa
 have Hb1 : Hid (Below w.heap.size w wa) := Below.trans Hb0.out (hsa.below.mono Hb0.out.size)
 clear hwa hsa h01 p00 p01 p02 hp
 go_enter Tryz.func208, Tryz.ntmps208
 go_upto_region 1 with (fail)
 rw [← Hw0.out, ← Hwa.out]
 have hs : Since wa wa := since_refl _
 go_wp2_with fail
 refine (neOwn_gen _ _ _ n wa (HN.out _ hs) HNs.out.ends HNs.out.row HNs.out.sz).mono ?_
 rintro e w1 ⟨we, wi, wn, S, rfl, ho, hb1⟩
 obtain ⟨A1, c1, rfl, -, -, -⟩ := id ho.read.1
 obtain ⟨AI, cI, rfl, -, -, -⟩ := id ho.read.2.1
 obtain ⟨AN, cN, rfl, -, -, -⟩ := id ho.read.2.2
 obtain ⟨g, rfl, -⟩ := ho.head (by omega)
 have hs1 : Since wa w1 := hs.trans hb1
 obtain ⟨w2, hw2⟩ : ∃ z, z = w1.alloc (.cells #[.slice (some ⟨g, 0, none⟩) n.ends.length c1, .slice AI n.ids.length cI, .slice AN n.inputs.length cN] 27) := ⟨_, rfl⟩
 obtain ⟨bo, hbo⟩ : ∃ z, z = w1.heap.size := ⟨_, rfl⟩
 have h12 : Since w1 w2 := by rw [hw2]; exact since_alloc _ (since_refl _)
 have hcp : Cp wa w2 bo g c1 n.ends.length (.slice AI n.ids.length cI) (.slice AN n.inputs.length cN) n S := by
  refine ⟨ho.keep h12.below, by rw [hw2, hbo]; exact Box3.new _ _ _ _ _, fun hj => by have := (ho.range _ hj).2; omega, hs1.after h12⟩
 have Hcp := Lib.hid hcp
 have Hw2 := Lib.hid hw2
 have Hbo := Lib.hid hbo
 have hs2 := hs1.after h12
 have Hbb : Hid (wa.heap.size ≤ bo ∧ bo < w2.heap.size) := ⟨by rw [hbo]; exact hs1.below.size, by rw [hw2, hbo]; simp⟩
 have HSr : Hid (∀ j ∈ S, wa.heap.size ≤ j ∧ j < w2.heap.size) := hcp.own.range
 obtain ⟨br, offr, cr0, ur, hA0, -, hrc, hEr⟩ := row_at (HN.out wa (since_refl _)).es HXV.out
 cases hA0
 obtain ⟨A9, y9, rfl, hz1, hz2, hA9⟩ := hEr
 unfold maxLen at hz2
 have HA9 := Lib.hid hA9
 have r0 := lift_cell (have_cell hrc) hs2
 have m00 := lift_cell q00 hs2
 have m01 := lift_cell q01 hs2
 have m02 := lift_cell q02 hs2
 have hbx := hcp.box.cells.1
 clear hA9 hrc hcp hbo hw2 ho hs1 h12 hb1 hs q00 q01 q02
 go_upto_region 2 with (fail)
 rw [← Hw2.out, ← Hbo.out]
 have Hs2 := Lib.hid hs2
 clear hs2 hbx
 have r0' := r0 w2 (since_refl _)
 have m0' := m00 w2 (since_refl _)
 clear r0 m00 m01 m02
 go_wp2
 clear r0' m0'
 go_loopw [18] (fun i wr => ∃ (k : Nat) (N : Net), k ≤ xv.length ∧ i = .int .i64 k ∧ Cp wa wr bo g c1 n.ends.length (.slice AI n.ids.length cI) (.slice AN n.inputs.length cN) N S ∧ SameSh n N ∧ AllIn n N) (fun i _ => xv.length - (intOf i).toNat)
 case atStart => exact ⟨0, n, Nat.zero_le _, rfl, Hcp.out, SameSh.refl _, Hwf.out⟩
 case round =>
  obtain ⟨k, N, hk, rfl, hcp, hsh, hal⟩ := hrel
  have Hcp2 := Lib.hid hcp
  have Hsh := Lib.hid hsh
  have Hal := Lib.hid hal
  have Hsr := Lib.hid hcp.since
  clear hsh hal
  by_cases hlt : k < xv.length
  ·obtain ⟨e, he⟩ := getx xv k hlt
   obtain ⟨a, b, fs, rfl, hfa, hbl⟩ := Hwf.out v xv HXV.out e (List.mem_of_getElem? he)
   obtain ⟨b9, o9, rfl, hx1, hx2⟩ := HA9.out k _ he
   have s1 := have_cell hx1 wr Hsr.out
   have s2 := have_cell hx2 wr Hsr.out
   obtain ⟨p, hp⟩ := getx xs k (by rw [Hpl.out]; exact hlt)
   obtain ⟨AP', cP', hA8, -, -, hP⟩ := HP.out wr Hsr.out
   simp only [Value.slice.injEq] at hA8
   obtain ⟨rfl, -, rfl⟩ := hA8
   obtain ⟨bp, op, rfl, hpc⟩ := hP k p hp
   obtain ⟨hp0, hp1⟩ := Hpb.out p (List.mem_of_getElem? hp)
   obtain ⟨pn, rfl⟩ : ∃ pn : Nat, p = (pn : Int) := ⟨p.toNat, by omega⟩
   have hpn : pn < xv.length := by omega
   have m4 : IntKind.i64.wrap ((k : Int) + 1) = (k : Int) + 1 := wr64 _ (by omega) (by omega)
   obtain ⟨w3, hw3⟩ : ∃ z, z = wr.alloc (.cells #[.int .i64 (a : Int), .int .i64 (b : Int)] 83) := ⟨_, rfl⟩
   obtain ⟨eb, heb⟩ : ∃ z, z = wr.heap.size := ⟨_, rfl⟩
   have h3 : Since wr w3 := by rw [hw3]; exact since_alloc _ (since_refl _)
   have hE3 : BoxA w3 eb #[.int .i64 (a : Int), .int .i64 (b : Int)] := by rw [hw3, heb]; exact BoxA.new _ _ _
   have HE3 := Lib.hid hE3
   have hebS : Hid (eb ∉ S) := fun hj => by have := (hcp.own.range _ hj).2; omega
   have hebB : Hid (eb ≠ bo) := fun e => by have := hcp.box.lt; omega
   have hebA : Hid (wa.heap.size ≤ eb) := by show _ ≤ _; rw [heb]; exact hcp.since.below.size
   have Hcp3 := Lib.hid (hcp.keep h3)
   have t1 := (hE3.cell 0 _ rfl).1
   have t2 := (hE3.cell 1 _ rfl).1
   have f2 := (hE3.cell 1 _ rfl).2
   have pc3 := bc h3.below hpc
   have Hw3 := Lib.hid hw3
   have Heb := Lib.hid heb
   have Hp := Lib.hid hp
   have Hfa := Lib.hid hfa
   have Hx := Lib.hid hE3
   have H3 := Lib.hid h3
   clear hcp he hx1 hx2 hp0 hp1 hp hpc hP hw3 heb hE3 h3 hfa
   go_upto_region 5 with (fail)
   rw [← Hw3.out, ← Heb.out]
   clear s1 s2
   by_cases hav : a = v
   ·subst hav
    obtain rfl : fs = xv := by have h1 := Hfa.out; rw [HXV.out] at h1; cases h1; rfl
    obtain ⟨q, hq⟩ := getx xs b (by rw [Hpl.out]; exact hbl)
    obtain ⟨AP', cP', hA8, -, -, hP⟩ := HP.out w3 (Hsr.out.after H3.out)
    simp only [Value.slice.injEq] at hA8
    obtain ⟨hA8, -, rfl⟩ := hA8
    obtain ⟨bp', op', hA7, hqc⟩ := hP b q hq
    obtain ⟨rfl, rfl⟩ : bp = bp' ∧ op = op' := by rw [hA7] at hA8; simpa using hA8
    obtain ⟨hq0, hq1⟩ := Hpb.out q (List.mem_of_getElem? hq)
    have hyy : Hid (InN n ((a : Int), q)) := ⟨a, q.toNat, fs, by rw [Int.toNat_of_nonneg hq0], HXV.out, by omega⟩
    clear hA8 hA7 hP hq hq0 hq1
    have htt : ((a : Int) = (a : Int)) = True := by simp
    have hble : b < xs.length := by rw [Hpl.out]; exact hbl
    go_upto_region 8 with (fail)
    obtain ⟨w4, hw4⟩ : ∃ z, z = w3.setCell ⟨eb, 1, none⟩ (.int .i64 q) := ⟨_, rfl⟩
    rw [← hw4]
    have hE4 : BoxA w4 eb #[.int .i64 (a : Int), .int .i64 q] := by rw [hw4]; exact boxA_put Hx.out 1 _
    have Hcp4 : Hid (Cp wa w4 bo g c1 n.ends.length (.slice AI n.ids.length cI) (.slice AN n.inputs.length cN) N S) := by show Cp _ _ _ _ _ _ _ _ _ _; rw [hw4]; exact Hcp3.out.put (p := ⟨eb, 1, none⟩) hebA.out hebS.out hebB.out _
    clear pc3 t1 t2 f2 hqc htt hw4
    have Hcp4s := Lib.hid Hcp4.out.since
    obtain ⟨gv, hgv, hgvl⟩ := Hsh.out.row a fs HXV.out
    obtain ⟨gr, cr, c1', n1', n2', n3', n4', n5', f0', f1', ⟨z0', c2'⟩, ⟨z1', c3'⟩, hup⟩ := Hcp4.out.port (j := pn) hgv (by omega)
    have hup := hup ((a : Int), (q : Int))
    have Hup := Lib.hid hup
    have Hgv := Lib.hid hgv
    have hgl : pn < gv.length := by omega
    have hgn : gr ≠ eb := fun e => hebS.out (e ▸ n3')
    clear hup hgv
    have t0 := have_cell Hcp4.out.box.cells.1
    have t4 := have_cell c1'
    have t1' := have_cell (hE4.cell 0 _ rfl).1
    have t2' := have_cell (hE4.cell 1 _ rfl).1
    obtain ⟨AP5, cP5, hA5, -, -, hP5⟩ := HP.out w4 Hcp4s.out
    simp only [Value.slice.injEq] at hA5
    obtain ⟨hA5, -, rfl⟩ := hA5
    obtain ⟨bp5, op5, hA6, hpc5⟩ := hP5 k _ Hp.out
    obtain ⟨rfl, rfl⟩ : bp = bp5 ∧ op = op5 := by rw [hA6] at hA5; simpa using hA5
    have pc' := have_cell hpc5
    have hkx : k < xs.length := by rw [Hpl.out]; exact hlt
    clear hA5 hA6 hP5 hpc5 hE4
    refine wp_region_chain0 (w0 := w4) 11 [false, false, false, false, false, false, false, false, false, false, false] (by kernel_rfl) (by kernel_rfl) (since_refl _) ?_
    simp only [selF, selT, List.take_succ_cons, List.take_zero, List.drop_succ_cons, List.drop_zero]
    refine pflow_val (v := ?_) rfl ?_ ?_; rotate_left; (intro W hW; go_simp; with_reducible rfl)
    simp only [zA]
    refine pflow_val (v := ?_) rfl ?_ ?_; rotate_left; (intro W hW; go_simp; with_reducible rfl)
    simp only [zA]
    refine pflow_val (v := ?_) rfl ?_ ?_; rotate_left; (intro W hW; go_simp; with_reducible rfl)
    simp only [zA]
    refine pflow_val (v := ?_) rfl ?_ ?_; rotate_left; (intro W hW; go_simp; with_reducible rfl)
    simp only [zA]
    refine pflow_val (v := ?_) rfl ?_ ?_; rotate_left; (intro W hW; go_simp; with_reducible rfl)
    simp only [zA]
    refine pflow_val (v := ?_) rfl ?_ ?_; rotate_left; (intro W hW; go_simp; with_reducible rfl)
    simp only [zA]
    refine pflow_val (v := ?_) rfl ?_ ?_; rotate_left; (intro W hW; go_simp; with_reducible rfl)
    simp only [zA]
    refine pflow_val (v := ?_) rfl ?_ ?_; rotate_left; (intro W hW; go_simp; with_reducible rfl)
    simp only [zA]
    refine pflow_val (v := ?_) rfl ?_ ?_; rotate_left; (intro W hW; go_simp; with_reducible rfl)
    simp only [zA]
    refine pflow_val (v := ?_) rfl ?_ ?_; rotate_left; (intro W hW; go_simp; with_reducible rfl)
    simp only [zA]
    refine pflow_val (v := ?_) rfl ?_ ?_; rotate_left; (intro W hW; go_simp; with_reducible rfl)
    simp only [zA]
    simp only [PFlow, TFlow]
    obtain ⟨W, hWd⟩ : ∃ W, W = World.drew w4 := ⟨_, rfl⟩
    rw [← hWd]
    have hW : Since w4 W := by rw [hWd]; exact since_drew (since_refl _)
    go_upto_region 9 with (fail)
    obtain ⟨w5, hw5⟩ : ∃ X, X = World.drew ((w4.setCell ⟨gr, pn * 2, none⟩ (.int .i64 (a : Int))).setCell ⟨gr, pn * 2 + 1, none⟩ (.int .i64 (q : Int))) := ⟨_, rfl⟩
    rw [← hw5]
    have Hcp5 : Hid (Cp wa w5 bo g c1 n.ends.length (.slice AI n.ids.length cI) (.slice AN n.inputs.length cN) ({ N with ends := N.ends.set a (gv.set pn ((a : Int), (q : Int))) } : Net) S) := by show Cp _ _ _ _ _ _ _ _ _ _; rw [hw5]; exact Hup.out.keep (since_drew (since_refl _))
    have Hsh5 := Lib.hid (Hsh.out.put (j := pn) Hgv.out ((a : Int), (q : Int)))
    have Hal5 := Lib.hid (Hal.out.put (j := pn) Hgv.out hyy.out)
    clear hw5 Hup c1' c2' c3' f0' f1' t0 t4 t1' t2' pc'
    go_wp2
    go_roundw
    case rel => exact ⟨k + 1, _, by omega, by first | rfl | go_num, Hcp5.out, Hsh5.out, Hal5.out⟩
    case measure => simp [intOf]; omega
   ·have hne : ((a : Int) = (v : Int)) = False := by simp; omega
    obtain ⟨ga, hga, hgal⟩ := Hsh.out.row a fs Hfa.out
    obtain ⟨gr, cr, c1', n1', n2', n3', n4', n5', f0', f1', ⟨z0', c2'⟩, ⟨z1', c3'⟩, hup⟩ := Hcp3.out.port (j := b) hga (by omega)
    have hyy : Hid (InN n ((v : Int), (pn : Int))) := ⟨v, pn, xv, rfl, HXV.out, hpn⟩
    have hup := hup ((v : Int), (pn : Int))
    have Hup := Lib.hid hup
    have Hga := Lib.hid hga
    have hgl : b < ga.length := by omega
    have hgn : gr ≠ eb := fun e => hebS.out (e ▸ n3')
    have hal : a < n.ends.length := lt_of_get Hfa.out
    have hkx7 : k < xs.length := by rw [Hpl.out]; exact hlt
    clear hup hga
    go_upto_region 7 with (fail)
    clear hne
    have t0 := have_cell Hcp3.out.box.cells.1
    have t4 := have_cell c1'
    have t1' := have_cell t1
    have t2' := have_cell t2
    have pc' := have_cell pc3
    clear t1 t2 pc3
    refine wp_region_chain0 (w0 := w3) 15 [false, false, false, false, false, false, false, false, false, false, false, false, false, false, false] (by kernel_rfl) (by kernel_rfl) (since_refl _) ?_
    simp only [selF, selT, List.take_succ_cons, List.take_zero, List.drop_succ_cons, List.drop_zero]
    refine pflow_val (v := ?_) rfl ?_ ?_; rotate_left; (intro W hW; go_simp; with_reducible rfl)
    simp only [zA]
    refine pflow_val (v := ?_) rfl ?_ ?_; rotate_left; (intro W hW; go_simp; with_reducible rfl)
    simp only [zA]
    refine pflow_val (v := ?_) rfl ?_ ?_; rotate_left; (intro W hW; go_simp; with_reducible rfl)
    simp only [zA]
    refine pflow_val (v := ?_) rfl ?_ ?_; rotate_left; (intro W hW; go_simp; with_reducible rfl)
    simp only [zA]
    refine pflow_val (v := ?_) rfl ?_ ?_; rotate_left; (intro W hW; go_simp; with_reducible rfl)
    simp only [zA]
    refine pflow_val (v := ?_) rfl ?_ ?_; rotate_left; (intro W hW; go_simp; with_reducible rfl)
    simp only [zA]
    refine pflow_val (v := ?_) rfl ?_ ?_; rotate_left; (intro W hW; go_simp; with_reducible rfl)
    simp only [zA]
    refine pflow_val (v := ?_) rfl ?_ ?_; rotate_left; (intro W hW; go_simp; with_reducible rfl)
    simp only [zA]
    refine pflow_val (v := ?_) rfl ?_ ?_; rotate_left; (intro W hW; go_simp; with_reducible rfl)
    simp only [zA]
    refine pflow_val (v := ?_) rfl ?_ ?_; rotate_left; (intro W hW; go_simp; with_reducible rfl)
    simp only [zA]
    refine pflow_val (v := ?_) rfl ?_ ?_; rotate_left; (intro W hW; go_simp; with_reducible rfl)
    simp only [zA]
    refine pflow_val (v := ?_) rfl ?_ ?_; rotate_left; (intro W hW; go_simp; with_reducible rfl)
    simp only [zA]
    refine pflow_val (v := ?_) rfl ?_ ?_; rotate_left; (intro W hW; go_simp; with_reducible rfl)
    simp only [zA]
    refine pflow_val (v := ?_) rfl ?_ ?_; rotate_left; (intro W hW; go_simp; with_reducible rfl)
    simp only [zA]
    refine pflow_val (v := ?_) rfl ?_ ?_; rotate_left; (intro W hW; go_simp; with_reducible rfl)
    simp only [zA]
    simp only [PFlow, TFlow]
    obtain ⟨W, hWd⟩ : ∃ W, W = World.drew w3 := ⟨_, rfl⟩
    rw [← hWd]
    have hW : Since w3 W := by rw [hWd]; exact since_drew (since_refl _)
    go_upto_region 8 with (fail)
    obtain ⟨w4, hw4⟩ : ∃ X, X = World.drew ((w3.setCell ⟨gr, b * 2, none⟩ (.int .i64 (v : Int))).setCell ⟨gr, b * 2 + 1, none⟩ (.int .i64 (pn : Int))) := ⟨_, rfl⟩
    rw [← hw4]
    have Hcp4' : Hid (Cp wa w4 bo g c1 n.ends.length (.slice AI n.ids.length cI) (.slice AN n.inputs.length cN) ({ N with ends := N.ends.set a (ga.set b ((v : Int), (pn : Int))) } : Net) S) := by show Cp _ _ _ _ _ _ _ _ _ _; rw [hw4]; exact Hup.out.keep (since_drew (since_refl _))
    have hE4 : BoxA w4 eb #[.int .i64 (a : Int), .int .i64 (b : Int)] := by rw [hw4]; exact (Hx.out.set (p := ⟨gr, b * 2, none⟩) hgn).set (p := ⟨gr, b * 2 + 1, none⟩) hgn
    have Hsh4' := Lib.hid (Hsh.out.put (j := b) Hga.out ((v : Int), (pn : Int)))
    have Hal4' := Lib.hid (Hal.out.put (j := b) Hga.out hyy.out)
    obtain ⟨N4, hN4⟩ : ∃ z, z = ({ N with ends := N.ends.set a (ga.set b ((v : Int), (pn : Int))) } : Net) := ⟨_, rfl⟩
    rw [← hN4] at Hcp4' Hsh4' Hal4'
    have Hcp4 := Hcp4'
    clear hw4 Hup c1' c2' c3' f0' f1' t0 t4 t1' t2' pc' n1' n2' n3' n4' n5' hgn f2 hN4 Hcp4'
    have hyy2 : Hid (InN n ((a : Int), (b : Int))) := ⟨a, b, fs, rfl, Hfa.out, hbl⟩
    clear hyy
    have hyy := hyy2
    clear hyy2
    have Hcp4s := Lib.hid Hcp4.out.since
    obtain ⟨gv, hgv, hgvl⟩ := Hsh4'.out.row v xv HXV.out
    obtain ⟨gr, cr, c1', n1', n2', n3', n4', n5', f0', f1', ⟨z0', c2'⟩, ⟨z1', c3'⟩, hup⟩ := Hcp4.out.port (j := pn) hgv (by omega)
    have hup := hup ((a : Int), (b : Int))
    have Hup := Lib.hid hup
    have Hgv := Lib.hid hgv
    have hgl : pn < gv.length := by omega
    have hgn : gr ≠ eb := fun e => hebS.out (e ▸ n3')
    clear hup hgv
    have t0 := have_cell Hcp4.out.box.cells.1
    have t4 := have_cell c1'
    have t1' := have_cell (hE4.cell 0 _ rfl).1
    have t2' := have_cell (hE4.cell 1 _ rfl).1
    obtain ⟨AP5, cP5, hA5, -, -, hP5⟩ := HP.out w4 Hcp4s.out
    simp only [Value.slice.injEq] at hA5
    obtain ⟨hA5, -, rfl⟩ := hA5
    obtain ⟨bp5, op5, hA6, hpc5⟩ := hP5 k _ Hp.out
    obtain ⟨rfl, rfl⟩ : bp = bp5 ∧ op = op5 := by rw [hA6] at hA5; simpa using hA5
    have pc' := have_cell hpc5
    have hkx : k < xs.length := by rw [Hpl.out]; exact hlt
    clear hA5 hA6 hP5 hpc5 hE4
    refine wp_region_chain0 (w0 := w4) 11 [false, false, false, false, false, false, false, false, false, false, false] (by kernel_rfl) (by kernel_rfl) (since_refl _) ?_
    simp only [selF, selT, List.take_succ_cons, List.take_zero, List.drop_succ_cons, List.drop_zero]
    refine pflow_val (v := ?_) rfl ?_ ?_; rotate_left; (intro W hW; go_simp; with_reducible rfl)
    simp only [zA]
    refine pflow_val (v := ?_) rfl ?_ ?_; rotate_left; (intro W hW; go_simp; with_reducible rfl)
    simp only [zA]
    refine pflow_val (v := ?_) rfl ?_ ?_; rotate_left; (intro W hW; go_simp; with_reducible rfl)
    simp only [zA]
    refine pflow_val (v := ?_) rfl ?_ ?_; rotate_left; (intro W hW; go_simp; with_reducible rfl)
    simp only [zA]
    refine pflow_val (v := ?_) rfl ?_ ?_; rotate_left; (intro W hW; go_simp; with_reducible rfl)
    simp only [zA]
    refine pflow_val (v := ?_) rfl ?_ ?_; rotate_left; (intro W hW; go_simp; with_reducible rfl)
    simp only [zA]
    refine pflow_val (v := ?_) rfl ?_ ?_; rotate_left; (intro W hW; go_simp; with_reducible rfl)
    simp only [zA]
    refine pflow_val (v := ?_) rfl ?_ ?_; rotate_left; (intro W hW; go_simp; with_reducible rfl)
    simp only [zA]
    refine pflow_val (v := ?_) rfl ?_ ?_; rotate_left; (intro W hW; go_simp; with_reducible rfl)
    simp only [zA]
    refine pflow_val (v := ?_) rfl ?_ ?_; rotate_left; (intro W hW; go_simp; with_reducible rfl)
    simp only [zA]
    refine pflow_val (v := ?_) rfl ?_ ?_; rotate_left; (intro W hW; go_simp; with_reducible rfl)
    simp only [zA]
    simp only [PFlow, TFlow]
    obtain ⟨W, hWd⟩ : ∃ W, W = World.drew w4 := ⟨_, rfl⟩
    rw [← hWd]
    have hW : Since w4 W := by rw [hWd]; exact since_drew (since_refl _)
    go_upto_region 9 with (fail)
    obtain ⟨w5, hw5⟩ : ∃ X, X = World.drew ((w4.setCell ⟨gr, pn * 2, none⟩ (.int .i64 (a : Int))).setCell ⟨gr, pn * 2 + 1, none⟩ (.int .i64 (b : Int))) := ⟨_, rfl⟩
    rw [← hw5]
    have Hcp5 : Hid (Cp wa w5 bo g c1 n.ends.length (.slice AI n.ids.length cI) (.slice AN n.inputs.length cN) ({ N4 with ends := N4.ends.set v (gv.set pn ((a : Int), (b : Int))) } : Net) S) := by show Cp _ _ _ _ _ _ _ _ _ _; rw [hw5]; exact Hup.out.keep (since_drew (since_refl _))
    have Hsh5 := Lib.hid (Hsh4'.out.put (j := pn) Hgv.out ((a : Int), (b : Int)))
    have Hal5 := Lib.hid (Hal4'.out.put (j := pn) Hgv.out hyy.out)
    clear hw5 Hup c1' c2' c3' f0' f1' t0 t4 t1' t2' pc'
    go_wp2
    go_roundw
    case rel => exact ⟨k + 1, _, by omega, by first | rfl | go_num, Hcp5.out, Hsh5.out, Hal5.out⟩
    case measure => simp [intOf]; omega
  ·obtain rfl : k = xv.length := by omega
   have hrw := HRb.out wr Hsr.out
   obtain ⟨d0, d1, d2, -, -, -⟩ := Hcp2.out.box.cells
   obtain ⟨e0, e1, e2, f0, f1, f2⟩ := hrw.box.cells
   have Hc := Lib.hid hcp
   clear hrw hcp
   go_wp2
   refine bodyPost_ret (v := .agg #[.slice (some ⟨g, 0, none⟩) n.ends.length c1, .slice AI n.ids.length cI, .slice AN n.inputs.length cN]) (by simp [results, Tryz.results208, go_sem, *]) rfl ?_
   have hza := Hza.out
   refine ⟨N, Hsh.out, Hal.out.wf Hsh.out, _, _, _, S, rfl, ((Hc.out.own.stable (fun j hj => ?_)).mono (show w.heap.size ≤ wa.heap.size by omega)), ?_⟩
   ·have hj1 := (Hc.out.own.range j hj).1
    rw [Below.heap_setCell _ _ _ j (by simp; omega), Below.heap_setCell _ _ _ j (by simp; omega), Below.heap_setCell _ _ _ j (by simp; omega)]
   ·have hk2 : Below w.heap.size w wr := Below.trans Hb1.out (Hsr.out.below.mono (by omega))
    exact ((hk2.setCell (by simp) _).setCell (by simp) _).setCell (by simp) _
end Go.Proofs.YtgmdpppljkmabaaGreat
namespace Go.Proofs.YtgmdpppljkmabaaGreat
open Go Go.RowKit
/-! a network that a draw makes: bounds, and the variable in which it lies -/
structure Shp (n N : Net) : Prop where
 ids : N.ids.length = n.ids.length
 inputs : N.inputs.length = n.inputs.length
 len : N.ends.length = n.ends.length
 row : ∀ (k : Nat) (es : List (Int × Int)), n.ends[k]? = some es → ∃ fs, N.ends[k]? = some fs ∧ fs.length = es.length
theorem SameSh.shp {n N : Net} (h : SameSh n N) : Shp n N := ⟨by rw [h.ids], by rw [h.inputs], h.len, h.row⟩
theorem Shp.refl (n : Net) : Shp n n := (SameSh.refl n).shp
theorem Shp.trans {a b c : Net} (h : Shp a b) (h' : Shp b c) : Shp a c := ⟨h'.ids.trans h.ids, h'.inputs.trans h.inputs, h'.len.trans h.len, fun k es he => by
 obtain ⟨fs, h1, h2⟩ := h.row k es he
 obtain ⟨gs, h3, h4⟩ := h'.row k fs h1
 exact ⟨gs, h3, by omega⟩⟩
structure Gd (R M : Nat) (n : Net) : Prop where
 ends : n.ends.length ≤ M
 row : ∀ (k : Nat) (es : List (Int × Int)), n.ends[k]? = some es → es.length ≤ R
 ids : n.ids.length ≤ M
 inputs : n.inputs.length = n.ends.length
 wf : WfN n
theorem sum_le {l : List (List (Int × Int))} {R : Nat} (h : ∀ es ∈ l, es.length ≤ R) : cntEE l ≤ 2 * R * l.length := by
 induction l with
 | nil => simp [cntEE]
 | cons a l ih =>
  have h1 := ih (fun es he => h es (List.mem_cons_of_mem _ he))
  have h2 := h a (by simp)
  simp only [cntEE, List.length_cons]
  have h3 : 2 * R * (l.length + 1) = 2 * R * l.length + 2 * R := by rw [Nat.mul_add, Nat.mul_one]
  omega
theorem szEE_le (l : List (List (Int × Int))) : szEE l ≤ l.length + cntEE l := by
 unfold szEE
 have : szRows l ≤ cntEE l := by
  induction l with
  | nil => simp [szRows, cntEE]
  | cons a r ih => simp only [cntEE, szRows, List.map_cons, List.sum_cons] at *; omega
 omega
theorem Gd.small {R M : Nat} {n : Net} (h : Gd R M n) (hR : R ≤ 100) (hM : M ≤ 100) : SmallN n := by
 refine ⟨by have := h.ends; omega, fun k es he => by have := h.row k es he; omega, ?_⟩
 have h1 : cntEE n.ends ≤ 2 * R * n.ends.length := sum_le (fun es he => by
  obtain ⟨k, hk⟩ := List.getElem?_of_mem he
  exact h.row k es hk)
 have h2 := szEE_le n.ends
 have h3 : 2 * R * n.ends.length ≤ 2 * 100 * 100 := Nat.mul_le_mul (by omega) (by have := h.ends; omega)
 have := h.ends
 have := h.ids
 have := h.inputs
 unfold szNet
 omega
theorem Gd.sh {R M : Nat} {n N : Net} (h : Gd R M n) (hs : Shp n N) (hw : WfN N) : Gd R M N := by
 refine ⟨by rw [hs.len]; exact h.ends, fun k fs hf => ?_, by rw [hs.ids]; exact h.ids, by rw [hs.inputs, hs.len]; exact h.inputs, hw⟩
 obtain ⟨es, he⟩ := getx n.ends k (by have := lt_of_get hf; have := hs.len; omega)
 obtain ⟨gs, hg, hl⟩ := hs.row k es he
 rw [hf] at hg
 cases hg
 have := h.row k es he
 omega
structure Mb (cb B pb : Nat) (A : Option Addr) (L c P : Nat) (w W : World) (ve vi vn : Value) (N : Net) (S : List Nat) : Prop where
 own : OwnNet W B ve vi vn N S
 box : Box3 W pb ve vi vn
 nb : pb ∉ S
 cur : CurP W cb A L c P
 far : CB cb B w W
theorem Box3.blk {W W' : World} {b : Nat} {x y z : Value} (h : Box3 W b x y z) (hb : W'.heap[b]? = W.heap[b]?) : Box3 W' b x y z := by
 obtain ⟨r, hr⟩ := h
 exact ⟨r, hb.trans hr⟩
theorem Mb.seen {cb B pb : Nat} {A : Option Addr} {L c P P' : Nat} {w W W' : World} {ve vi vn : Value} {N : Net} {S : List Nat} (h : Mb cb B pb A L c P w W ve vi vn N S) (hs : Seen cb W W') (hcur : CurP W' cb A L c P') (hb : cb < B) (hp : B ≤ pb) (hB : B ≤ W.heap.size) : Mb cb B pb A L c P' w W' ve vi vn N S :=
 ⟨h.own.seen hs hb, h.box.blk (hs.block pb h.box.lt (by omega)), h.nb, hcur, h.far.trans (CB.mono hs hB)⟩
theorem Mb.since {cb B pb : Nat} {A : Option Addr} {L c P : Nat} {w W W' : World} {ve vi vn : Value} {N : Net} {S : List Nat} (h : Mb cb B pb A L c P w W ve vi vn N S) (hs : Since W W') (hb : cb < B) (hp : B ≤ pb) (hB : B ≤ W.heap.size) : Mb cb B pb A L c P w W' ve vi vn N S := h.seen (CB.of hs) (h.cur.since hs) hb hp hB
def set3 (W : World) (b : Nat) (x y z : Value) : World := ((W.setCell ⟨b, 0, none⟩ x).setCell ⟨b, 1, none⟩ y).setCell ⟨b, 2, none⟩ z
theorem set3_size (W : World) (b : Nat) (x y z : Value) : (set3 W b x y z).heap.size = W.heap.size := by simp [set3, sizeSet]
theorem set3_blk (W : World) (b : Nat) (x y z : Value) {j : Nat} (h : j ≠ b) : (set3 W b x y z).heap[j]? = W.heap[j]? := by
 unfold set3
 rw [Below.heap_setCell _ _ _ j (by exact h), Below.heap_setCell _ _ _ j (by exact h), Below.heap_setCell _ _ _ j (by exact h)]
theorem Box3.set3 {W : World} {b : Nat} {x y z : Value} (h : Box3 W b x y z) (x' y' z' : Value) : Box3 (set3 W b x' y' z') b x' y' z' := by
 unfold Go.Proofs.YtgmdpppljkmabaaGreat.set3
 exact ((h.put0).put1).put2
theorem Mb.assign {cb B pb : Nat} {A : Option Addr} {L c P P' : Nat} {w W W1 : World} {ve vi vn a b d : Value} {N N' : Net} {S S' : List Nat} {B' : Nat} (h : Mb cb B pb A L c P w W ve vi vn N S) (hs : Seen cb W W1) (hcur : CurP W1 cb A L c P') (ho : OwnNet W1 B' a b d N' S') (hB' : pb < B') (hb : cb < B) (hp : B ≤ pb) (hB : B ≤ W.heap.size) :
  Mb cb B pb A L c P' w (set3 W1 pb a b d) a b d N' S' := by
 have hn : pb ∉ S' := fun hj => by have := (ho.range _ hj).1; omega
 refine ⟨(ho.stable (fun k hk => set3_blk W1 pb a b d (fun e => hn (e ▸ hk)))).mono (by omega), (h.box.blk (hs.block pb h.box.lt (by omega))).set3 _ _ _, hn, hcur.keep (fun k hk => set3_blk W1 pb a b d (by omega)), ?_⟩
 exact (((h.far.trans (CB.mono hs hB)).setCell (p := ⟨pb, 0, none⟩) (.inl hp) _).setCell (p := ⟨pb, 1, none⟩) (.inl hp) _).setCell (p := ⟨pb, 2, none⟩) (.inl hp) _
theorem OwnNet.setIn {w : World} {base g c n : Nat} {ve vi : Value} {N : Net} {S : List Nat} (h : OwnNet w base ve vi (.slice (some ⟨g, 0, none⟩) n c) N S) {k : Nat} (x : Int) (_ : k < N.inputs.length) :
  g ∈ S ∧ w.frozen? ⟨g, k, none⟩ = false ∧ OwnNet (w.setCell ⟨g, k, none⟩ (.int .i64 x)) base ve vi (.slice (some ⟨g, 0, none⟩) n c) { N with inputs := N.inputs.set k x } S := by
 obtain ⟨S1, S2, S3, h1, h2, h3, h4, h5⟩ := h
 have hg : g ∈ S3 := by rw [h3.2]; simp [Value.ownBlock]
 have h5' := h5
 rw [h4, List.nodup_append, List.nodup_append] at h5
 have d1 : ∀ j ∈ S1, j ≠ g := fun j hj e => h5.2.2 j hj g (List.mem_append_right _ hg) e
 have d2 : ∀ j ∈ S2, j ≠ g := fun j hj e => h5.2.1.2.2 j hj g hg e
 exact ⟨by rw [h4]; exact List.mem_append_right _ (List.mem_append_right _ hg), h3.1.free k, S1, S2, S3, lawEE.stable h1 (fun j hj => Below.heap_setCell _ _ _ _ (d1 j hj)), lawI.stable h2 (fun j hj => Below.heap_setCell _ _ _ _ (d2 j hj)), ⟨h3.1.set x, h3.2⟩, h4, h5'⟩
end Go.Proofs.YtgmdpppljkmabaaGreat
namespace Go.Proofs.YtgmdpppljkmabaaGreat
open Go Go.RowKit
/-! mixed: ports and inputs are drawn anew -/
def NewD (cb B : Nat) (A : Option Addr) (L c P : Nat) (w : World) (T : Net → Prop) (e : Ending) (w' : World) : Prop :=
 ∃ ve vi vn N S, e = .returned (.agg #[ve, vi, vn]) ∧ OwnNet w' B ve vi vn N S ∧ T N ∧ CurP w' cb A L c P ∧ CB cb B w w'
theorem OwnNet.headIn {w : World} {base k c : Nat} {A : Option Addr} {ve vi : Value} {N : Net} {S : List Nat} (h : OwnNet w base ve vi (.slice A k c) N S) (h0 : 0 < N.inputs.length) : ∃ g, A = some ⟨g, 0, none⟩ := by
 obtain ⟨S1, S2, S3, _, _, h3, _⟩ := h
 rcases h3.1.cases with ⟨-, h2⟩ | ⟨g, c', hv, _⟩
 ·rw [h2] at h0; simp at h0
 ·cases hv
  exact ⟨g, rfl⟩
theorem OwnNet.inCell {w : World} {base g k c j : Nat} {ve vi : Value} {N : Net} {S : List Nat} (h : OwnNet w base ve vi (.slice (some ⟨g, 0, none⟩) k c) N S) (hj : j < N.inputs.length) : ∃ z, w.cell? ⟨g, j, none⟩ = some z := by
 obtain ⟨S1, S2, S3, _, _, h3, _⟩ := h
 obtain ⟨x, hx⟩ := getx N.inputs j hj
 exact ⟨_, h3.1.cell hx⟩
set_option maxRecDepth 100000 in
set_option maxHeartbeats 8000000 in
theorem mixed_p (cb : Nat) (A : Option Addr) (L c P B R M : Nat) (ve vi vn : Value) (n : Net) (S : List Nat) (w : World) (hc : CurP w cb A L c P) (hP : P ≤ 4611686018426000000) (h : OwnNet w B ve vi vn n S) (hcb : cb < B) (hBw : B ≤ w.heap.size) (hg : Gd R M n) (hR : R ≤ 100) (hM : M ≤ 100) (hn0 : 0 < n.ends.length) :
  Calls Tryz.prog 156 #[.pointer (some ⟨cb, 0, none⟩), .agg #[ve, vi, vn]] w (NewD cb B A L c (P + 100000) w (fun N => Shp n N ∧ Gd R M N)) := by
 obtain ⟨A1, c1, rfl, -, hm1, -⟩ := id h.read.1
 obtain ⟨AI, cI, rfl, -, -, -⟩ := id h.read.2.1
 obtain ⟨AN, cN, rfl, -, -, -⟩ := id h.read.2.2
 obtain ⟨pb, hpb⟩ : ∃ z, z = w.heap.size := ⟨_, rfl⟩
 obtain ⟨w0, hw0⟩ : ∃ z, z = w.alloc (.cells #[.slice A1 n.ends.length c1, .slice AI n.ids.length cI, .slice AN n.inputs.length cN] 27) := ⟨_, rfl⟩
 obtain ⟨wa, hwa⟩ : ∃ z, z = w0.alloc (.cells #[.slice none 0 0, .slice none 0 0, .slice none 0 0] 27) := ⟨_, rfl⟩
 have hs0 : Since w w0 := by rw [hw0]; exact since_alloc _ (since_refl _)
 have hs1 : Since w0 wa := by rw [hwa]; exact since_alloc _ (since_refl _)
 have h01 : w0.heap.size = w.heap.size + 1 := by rw [hw0]; simp
 have hb0 : Box3 w0 pb (.slice A1 n.ends.length c1) (.slice AI n.ids.length cI) (.slice AN n.inputs.length cN) := by rw [hw0, hpb]; exact Box3.new _ _ _ _ _
 have hrb : BoxN wa (w.heap.size + 1) (.slice none 0 0) (.slice none 0 0) (.slice none 0 0) := by
  rw [hwa, ← h01]
  show (w0.heap.push _)[w0.heap.size]? = _
  rw [Array.getElem?_push_size]
 have hsw : Since w wa := hs0.after hs1
 have hmb : Mb cb B pb A L c P w wa (.slice A1 n.ends.length c1) (.slice AI n.ids.length cI) (.slice AN n.inputs.length cN) n S :=
  ⟨h.keep hsw.below, hb0.below hs1 (by rw [h01, hpb]; omega), fun hj => by have := (h.range _ hj).2; omega, hc.since hsw, CB.mono (CB.of hsw) hBw⟩
 have Hpb : Hid (B ≤ pb ∧ pb + 2 = wa.heap.size ∧ pb = w.heap.size) := ⟨by omega, by rw [hpb, hwa]; simp; omega, hpb⟩
 have HSp : Hid (∀ j ∈ S, j < pb) := fun j hj => by have := (h.range j hj).2; omega
 have Hrb := Lib.hid hrb
 have Hmb := Lib.hid hmb
 have Hg := Lib.hid hg
 have Hw0 := Lib.hid hw0
 have Hwa := Lib.hid hwa
 have hbx := hmb.box.cells
 have he40 : n.ends.length ≤ 100 := by have := hg.ends; omega
 clear hc h hs0 hs1 hb0 hrb hsw hmb hg hw0 hwa hpb h01
 go_enter Tryz.func156, Tryz.ntmps156
 go_upto_region 1 with (fail)
 rw [← Hw0.out, ← Hwa.out, ← Hpb.out.2.2]
 obtain ⟨x0, x1, x2, -, -, -⟩ := hbx
 clear hBw
 go_wp2
 go_loopw [10] (fun i wr => ∃ (k : Nat) (ve vi vn : Value) (N : Net) (S : List Nat), k ≤ n.ends.length ∧ i = .int .i64 k ∧ Mb cb B pb A L c (P + 202 * k) w wr ve vi vn N S ∧ Shp n N ∧ Gd R M N ∧ BoxN wr (pb + 1) (.slice none 0 0) (.slice none 0 0) (.slice none 0 0) ∧ pb + 1 ∉ S ∧ wa.heap.size ≤ wr.heap.size) (fun i _ => n.ends.length - (intOf i).toNat)
 case atStart => exact ⟨0, _, _, _, n, S, Nat.zero_le _, rfl, by simpa using Hmb.out, Shp.refl _, Hg.out, by rw [Hpb.out.2.2]; exact Hrb.out, fun hj => by have := HSp.out _ hj; omega, Nat.le_refl _⟩
 case round =>
  obtain ⟨k, ve, vi, vn, N, S2, hk, rfl, hm, hsh, hgd, hrb, hrn, hsz⟩ := hrel
  clear x0 x1 x2
  obtain ⟨A1', c1', rfl, -, hm1', -⟩ := id hm.own.read.1
  obtain ⟨AI', cI', rfl, -, -, -⟩ := id hm.own.read.2.1
  obtain ⟨AN', cN', rfl, -, -, -⟩ := id hm.own.read.2.2
  have hNl := hsh.len
  obtain ⟨g, rfl, -⟩ := hm.own.head (by omega)
  have Hm := Lib.hid hm
  have Hsh := Lib.hid hsh
  have Hgd := Lib.hid hgd
  have Hrb2 := Lib.hid hrb
  have Hrn := Lib.hid hrn
  have Hsz := Lib.hid hsz
  have HNl := Lib.hid hNl
  have HBr : Hid (B ≤ wr.heap.size) := by show _ ≤ _; have := Hpb.out; omega
  have hP2 := hm.cur
  clear hm hsh hgd hrb hrn hsz hNl
  by_cases hlt : k < n.ends.length
  ·have m4 : IntKind.i64.wrap ((k : Int) + 1) = (k : Int) + 1 := wr64 _ (by omega) (by omega)
   have Hcu := Lib.hid hP2
   clear hP2
   go_wp2_with fail
   refine (one_p cb A L c (P + 202 * k) 2 wr Hcu.out (by omega) (by omega)).mono ?_
   rintro e w2 ⟨b, rfl, hcu2, hC2⟩
   have Hm2 := Lib.hid (Hm.out.seen hC2 hcu2 hcb Hpb.out.1 HBr.out)
   have Hrb3 : Hid (BoxN w2 (pb + 1) (.slice none 0 0) (.slice none 0 0) (.slice none 0 0)) := (hC2.block _ Hrb2.out.lt (by have := Hpb.out; omega)).trans Hrb2.out
   have Hsz2 : Hid (wa.heap.size ≤ w2.heap.size) := Nat.le_trans Hsz.out hC2.size
   have Hcu2 := Lib.hid hcu2
   clear hcu2 hC2
   cases b
   ·go_wp2
    go_roundw
    case rel => exact ⟨k + 1, _, _, _, N, S2, by omega, by first | rfl | go_num, ⟨Hm2.out.own, Hm2.out.box, Hm2.out.nb, Hcu2.out.mono (by omega), Hm2.out.far⟩, Hsh.out, Hgd.out, Hrb3.out, Hrn.out, Hsz2.out⟩
    case measure => simp [intOf]; omega
   ·obtain ⟨xv, hxe⟩ : ∃ z, z = rowN N k := ⟨_, rfl⟩
    have hxv := rowN_get (n := N) (v := k) (by have := HNl.out; omega)
    rw [← hxe] at hxv
    have Hxe := Lib.hid hxe
    have Hxl : Hid (xv.length ≤ 100) := by show _ ≤ _; have := Hgd.out.row _ _ hxv; omega
    obtain ⟨u, T, hu, -, hR, -, -, hgS⟩ := Hm2.out.own.rowCell hxv
    obtain ⟨AU, cU, rfl, -, -, -⟩ := id hR.read
    have hgc : g ≠ cb := fun e => by have := (Hm2.out.own.range g hgS).1; omega
    have hpc : pb ≠ cb := by have := Hpb.out; omega
    have Hxv := Lib.hid hxv
    obtain ⟨b0, b1, b2, -, -, -⟩ := Hm2.out.box.cells
    have HS0 := Lib.hid (And.intro b0 (And.intro b1 (And.intro b2 hu)))
    have HkN : Hid (k < N.ends.length) := by show _ < _; have := HNl.out; omega
    clear hxe hxv hR hgS b0 b1 b2 hu
    go_upto_region 5 with (fail)
    have hkN := HkN.out
    refine wp_region_chainS (fun W => W.cell? ⟨pb, 0, none⟩ = some (.slice (some ⟨g, 0, none⟩) N.ends.length c1') ∧ W.cell? ⟨pb, 1, none⟩ = some (.slice AI' N.ids.length cI') ∧ W.cell? ⟨pb, 2, none⟩ = some (.slice AN' N.inputs.length cN') ∧ W.cell? ⟨g, k, none⟩ = some (.slice AU xv.length cU)) 11 [false, false, false, false, false, false, false, false, false, true, true] (by kernel_rfl) (by kernel_rfl) (show (World.drew w2).cell? ⟨pb, 0, none⟩ = some (.slice (some ⟨g, 0, none⟩) N.ends.length c1') ∧ (World.drew w2).cell? ⟨pb, 1, none⟩ = some (.slice AI' N.ids.length cI') ∧ (World.drew w2).cell? ⟨pb, 2, none⟩ = some (.slice AN' N.inputs.length cN') ∧ (World.drew w2).cell? ⟨g, k, none⟩ = some (.slice AU xv.length cU) from HS0.out) ?_
    simp only [selF, selT, List.take_succ_cons, List.take_zero, List.drop_succ_cons, List.drop_zero]
    refine pflowS_val (v := ?_) rfl ?_ ?_; rotate_left; (intro W hW; (obtain ⟨k0, k1, k2, k3⟩ := hW); go_simp; with_reducible rfl)
    simp only [zA]
    refine pflowS_val (v := ?_) rfl ?_ ?_; rotate_left; (intro W hW; (obtain ⟨k0, k1, k2, k3⟩ := hW); go_simp; with_reducible rfl)
    simp only [zA]
    refine pflowS_val (v := ?_) rfl ?_ ?_; rotate_left; (intro W hW; (obtain ⟨k0, k1, k2, k3⟩ := hW); go_simp; with_reducible rfl)
    simp only [zA]
    refine pflowS_val (v := ?_) rfl ?_ ?_; rotate_left; (intro W hW; (obtain ⟨k0, k1, k2, k3⟩ := hW); go_simp; with_reducible rfl)
    simp only [zA]
    refine pflowS_val (v := ?_) rfl ?_ ?_; rotate_left; (intro W hW; (obtain ⟨k0, k1, k2, k3⟩ := hW); go_simp; with_reducible rfl)
    simp only [zA]
    refine pflowS_val (v := ?_) rfl ?_ ?_; rotate_left; (intro W hW; (obtain ⟨k0, k1, k2, k3⟩ := hW); go_simp; with_reducible rfl)
    simp only [zA]
    refine pflowS_val (v := ?_) rfl ?_ ?_; rotate_left; (intro W hW; (obtain ⟨k0, k1, k2, k3⟩ := hW); go_simp; with_reducible rfl)
    simp only [zA]
    refine pflowS_val (v := ?_) rfl ?_ ?_; rotate_left; (intro W hW; (obtain ⟨k0, k1, k2, k3⟩ := hW); go_simp; with_reducible rfl)
    simp only [zA]
    refine pflowS_val (v := ?_) rfl ?_ ?_; rotate_left; (intro W hW; (obtain ⟨k0, k1, k2, k3⟩ := hW); go_simp; with_reducible rfl)
    simp only [zA]
    obtain ⟨W, hWd⟩ : ∃ W, W = World.drew w2 := ⟨_, rfl⟩
    rw [← hWd]
    have hW := (show (World.drew w2).cell? ⟨pb, 0, none⟩ = some (.slice (some ⟨g, 0, none⟩) N.ends.length c1') ∧ (World.drew w2).cell? ⟨pb, 1, none⟩ = some (.slice AI' N.ids.length cI') ∧ (World.drew w2).cell? ⟨pb, 2, none⟩ = some (.slice AN' N.inputs.length cN') ∧ (World.drew w2).cell? ⟨g, k, none⟩ = some (.slice AU xv.length cU) from HS0.out)
    rw [← hWd] at hW
    have HWd := Lib.hid hWd
    clear hWd
    refine Or.inl ⟨rfl, ?_⟩
    go_simp
    (with_reducible refine (perm_p cb A L c (P + 202 * k + 2) xv.length W (by rw [HWd.out]; exact Hcu2.out.since (since_drew (since_refl _))) (by omega) Hxl.out).mono ?_)
    rintro e W' ⟨gp, xs, rfl, hop, hpb, hcu, hC⟩
    refine ⟨_, rfl, And.intro (seen_cell hW.1 hpc _ hC) (And.intro (seen_cell hW.2.1 hpc _ hC) (And.intro (seen_cell hW.2.2.1 hpc _ hC) (seen_cell hW.2.2.2 hgc _ hC))), ?_⟩
    replace hW := And.intro (seen_cell hW.1 hpc _ hC) (And.intro (seen_cell hW.2.1 hpc _ hC) (And.intro (seen_cell hW.2.2.1 hpc _ hC) (seen_cell hW.2.2.2 hgc _ hC)))
    have hS1 : Since w2 W := (by rw [HWd.out]; exact since_drew (since_refl _))
    have hC2 : Seen cb w2 W' := ((Seen.refl cb w2).after hS1).trans hC
    have Hop := Lib.hid hop
    have HpB := Lib.hid hpb
    have Hcu3 := Lib.hid hcu
    have HC3 := Lib.hid hC2
    clear hop hpb hcu hC hC2 hS1
    obtain ⟨wp, rfl⟩ : ∃ z, z = W' := ⟨_, rfl⟩
    (try simp only [zA])
    refine Or.inl ⟨rfl, ?_⟩
    go_simp
    (with_reducible refine (nePorts_any _ _ _ _ N k xs _ (Hm2.out.own.seen HC3.out hcb).read HkN.out (Hgd.out.small hR hM) Hgd.out.wf Hop.out.ints (by rw [← Hxe.out]; exact Hop.out.len) (by rw [← Hxe.out]; exact HpB.out)).mono ?_)
    rintro e W' ⟨N2, hs2, hw2, ve2, vi2, vn2, S3, rfl, ho2, hb2⟩
    refine ⟨_, rfl, And.intro (bc hb2 hW.1) (And.intro (bc hb2 hW.2.1) (And.intro (bc hb2 hW.2.2.1) (bc hb2 hW.2.2.2))), ?_⟩
    replace hW := And.intro (bc hb2 hW.1) (And.intro (bc hb2 hW.2.1) (And.intro (bc hb2 hW.2.2.1) (bc hb2 hW.2.2.2)))
    skip
    (try simp only [zA])
    simp only [TFlow]
    obtain ⟨D0, d0, rfl, -, -, -⟩ := id ho2.read.1
    obtain ⟨D1, d1, rfl, -, -, -⟩ := id ho2.read.2.1
    obtain ⟨D2, d2, rfl, -, -, -⟩ := id ho2.read.2.2
    have hC4 : Seen cb w2 W' := HC3.out.after hb2
    have hpl : pb < wp.heap.size := Nat.lt_of_lt_of_le Hm2.out.box.lt HC3.out.size
    have hma := Hm2.out.assign hC4 (Hcu3.out.since hb2) ho2 hpl hcb Hpb.out.1 (by have h1 := Hsz2.out; have h2 := Hpb.out; omega)
    have hbb : Box3 W' pb (.slice (some ⟨g, 0, none⟩) N.ends.length c1') (.slice AI' N.ids.length cI') (.slice AN' N.inputs.length cN') := Hm2.out.box.blk (hC4.block pb Hm2.out.box.lt hpc)
    have hrb4 : BoxN (set3 W' pb (.slice D0 N2.ends.length d0) (.slice D1 N2.ids.length d1) (.slice D2 N2.inputs.length d2)) (pb + 1) (.slice none 0 0) (.slice none 0 0) (.slice none 0 0) := (set3_blk W' pb _ _ _ (by omega)).trans ((hC4.block _ Hrb3.out.lt (by have := Hpb.out; omega)).trans Hrb3.out)
    have hrn4 : pb + 1 ∉ S3 := fun hj => by have h1 := (ho2.range _ hj).1; have h2 := HC3.out.size; have h3 := Hsz2.out; have h4 := Hpb.out; omega
    have hsz4 : wa.heap.size ≤ (set3 W' pb (.slice D0 N2.ends.length d0) (.slice D1 N2.ids.length d1) (.slice D2 N2.inputs.length d2)).heap.size := by rw [set3_size]; exact Nat.le_trans Hsz2.out hC4.size
    obtain ⟨-, -, -, f0, f1, f2⟩ := hbb.cells
    obtain ⟨k0, k1, k2, k3⟩ := hW
    have Hma := Lib.hid hma
    have Hrb4 := Lib.hid hrb4
    have Hrn4 := Lib.hid hrn4
    have Hsz4 := Lib.hid hsz4
    have Hs2 := Lib.hid (Hsh.out.trans hs2.shp)
    have Hg2 := Lib.hid (Hgd.out.sh hs2.shp hw2)
    clear hma hbb hrb4 hrn4 hsz4 hC4 ho2 hb2 hs2 hw2 hkN hpl
    go_wp2
    go_roundw
    case rel => exact ⟨k + 1, _, _, _, N2, S3, by omega, by first | rfl | go_num, ⟨Hma.out.own, Hma.out.box, Hma.out.nb, Hma.out.cur.mono (by omega), Hma.out.far⟩, Hs2.out, Hg2.out, Hrb4.out, Hrn4.out, Hsz4.out⟩
    case measure => simp [intOf]; omega
  ·obtain rfl : k = n.ends.length := by omega
   have Hcu := Lib.hid hP2
   clear hP2
   obtain ⟨wo, rfl⟩ : ∃ z, z = wr := ⟨_, rfl⟩
   go_wp2_with fail
   refine (one_p cb A L c (P + 202 * n.ends.length) 3 wo Hcu.out (by omega) (by omega)).mono ?_
   rintro e w2 ⟨b, rfl, hcu2, hC2⟩
   have Hm2 := Lib.hid (Hm.out.seen hC2 hcu2 hcb Hpb.out.1 HBr.out)
   have Hrb3 : Hid (BoxN w2 (pb + 1) (.slice none 0 0) (.slice none 0 0) (.slice none 0 0)) := (hC2.block _ Hrb2.out.lt (by have := Hpb.out; omega)).trans Hrb2.out
   have Hsz2 : Hid (wa.heap.size ≤ w2.heap.size) := Nat.le_trans Hsz.out hC2.size
   clear hcu2 hC2
   cases b
   ·have Hmz := Hm2
    have Hrz := Hrb3
    have Hshz := Hsh
    have Hgz := Hgd
    obtain ⟨NZ, hNZ⟩ : ∃ z, z = N := ⟨_, rfl⟩
    rw [← hNZ] at Hshz Hgz
    have Hmz' : Hid (Mb cb B pb A L c (P + 202 * n.ends.length + 2) w w2 (.slice (some ⟨g, 0, none⟩) N.ends.length c1') (.slice AI' N.ids.length cI') (.slice AN' N.inputs.length cN') NZ S2) := by rw [hNZ]; exact Hmz
    clear Hmz hNZ
    have Hmz := Hmz'
    clear Hmz'
    have hbb := Hmz.out.box.cells
    obtain ⟨k0, k1, k2, -, -, -⟩ := hbb
    have hrr := Hrz.out.box.cells
    obtain ⟨e0, e1, e2, f0, f1, f2⟩ := hrr
    go_wp2
    refine bodyPost_ret (v := .agg #[.slice (some ⟨g, 0, none⟩) N.ends.length c1', .slice AI' N.ids.length cI', .slice AN' N.inputs.length cN']) (by simp [results, Tryz.results156, go_sem, *]) rfl ?_
    refine ⟨_, _, _, NZ, S2, rfl, Hmz.out.own.stable (fun q hq => ?_), ⟨Hshz.out, Hgz.out⟩, Hmz.out.cur.mono (by omega) |>.keep (fun q hq => ?_), ?_⟩
    ·have hq1 : q ≠ pb + 1 := fun e => Hrn.out (e ▸ hq)
     rw [Below.heap_setCell _ _ _ q (by exact hq1), Below.heap_setCell _ _ _ q (by exact hq1), Below.heap_setCell _ _ _ q (by exact hq1)]
    ·have hq1 : q ≠ pb + 1 := by have := Hpb.out; omega
     rw [Below.heap_setCell _ _ _ q (by exact hq1), Below.heap_setCell _ _ _ q (by exact hq1), Below.heap_setCell _ _ _ q (by exact hq1)]
    ·have hB1 : B ≤ pb + 1 := by have := Hpb.out; omega
     exact ((Hmz.out.far.setCell (p := ⟨pb + 1, 0, none⟩) (.inl hB1) _).setCell (p := ⟨pb + 1, 1, none⟩) (.inl hB1) _).setCell (p := ⟨pb + 1, 2, none⟩) (.inl hB1) _
   ·have hpc : pb ≠ cb := by have := Hpb.out; omega
    have hbb := Hm2.out.box.cells
    have k2 := hbb.2.2.1
    have Hil : Hid (N.inputs.length ≤ 100) := by show _ ≤ _; have := Hgd.out.inputs; have := Hgd.out.ends; omega
    clear hbb
    go_upto_region 9 with (fail)
    clear k2
    obtain ⟨Q, hQ⟩ : ∃ z, z = P + 202 * n.ends.length + 2 := ⟨_, rfl⟩
    have HQ1 := Lib.hid hQ
    rw [← hQ] at Hm2
    clear hQ
    go_loopw [32] (fun i wr => ∃ (j : Nat) (ys : List Int), j ≤ N.inputs.length ∧ i = .int .i64 j ∧ ys.length = N.inputs.length ∧ Mb cb B pb A L c (Q + 2 * j) w wr (.slice (some ⟨g, 0, none⟩) N.ends.length c1') (.slice AI' N.ids.length cI') (.slice AN' N.inputs.length cN') { N with inputs := ys } S2 ∧ BoxN wr (pb + 1) (.slice none 0 0) (.slice none 0 0) (.slice none 0 0) ∧ wa.heap.size ≤ wr.heap.size) (fun i _ => N.inputs.length - (intOf i).toNat)
    case atStart => exact ⟨0, N.inputs, Nat.zero_le _, rfl, rfl, Hm2.out, Hrb3.out, Hsz2.out⟩
    case round =>
     obtain ⟨j, ys, hj, rfl, hyl, hm, hrb, hsz⟩ := hrel
     have Hmj := Lib.hid hm
     have Hrbj := Lib.hid hrb
     have Hszj := Lib.hid hsz
     have Hyl := Lib.hid hyl
     clear hm hrb hsz hyl
     have HBj : Hid (B ≤ wr.heap.size) := by show _ ≤ _; have h1 := Hszj.out; have h2 := Hpb.out; omega
     by_cases hjl : j < N.inputs.length
     ·obtain ⟨gi, rfl⟩ := Hmj.out.own.headIn (by show 0 < ys.length; have := Hyl.out; omega)
      have k2 := Hmj.out.box.cells.2.2.1
      have HK2 := Lib.hid k2
      have m5 : IntKind.i64.wrap ((j : Int) + 1) = (j : Int) + 1 := wr64 _ (by omega) (by have := Hil.out; omega)
      clear k2
      go_upto_region 11 with (fail)
      refine wp_region_chainS (fun W => W.cell? ⟨pb, 2, none⟩ = some (.slice (some ⟨gi, 0, none⟩) N.inputs.length cN')) 5 [false, false, false, false, true] (by kernel_rfl) (by kernel_rfl) (show (World.drew wr).cell? ⟨pb, 2, none⟩ = some (.slice (some ⟨gi, 0, none⟩) N.inputs.length cN') from HK2.out) ?_
      simp only [selF, selT, List.take_succ_cons, List.take_zero, List.drop_succ_cons, List.drop_zero]
      refine pflowS_val (v := ?_) rfl ?_ ?_; rotate_left; (intro W hW; (have k2 := hW); go_simp; with_reducible rfl)
      simp only [zA]
      refine pflowS_val (v := ?_) rfl ?_ ?_; rotate_left; (intro W hW; (have k2 := hW); go_simp; with_reducible rfl)
      simp only [zA]
      refine pflowS_val (v := ?_) rfl ?_ ?_; rotate_left; (intro W hW; (have k2 := hW); go_simp; with_reducible rfl)
      simp only [zA]
      refine pflowS_val (v := ?_) rfl ?_ ?_; rotate_left; (intro W hW; (have k2 := hW); go_simp; with_reducible rfl)
      simp only [zA]
      obtain ⟨W, hWd⟩ : ∃ W, W = World.drew wr := ⟨_, rfl⟩
      rw [← hWd]
      have hW := (show (World.drew wr).cell? ⟨pb, 2, none⟩ = some (.slice (some ⟨gi, 0, none⟩) N.inputs.length cN') from HK2.out)
      rw [← hWd] at hW
      have HWd := Lib.hid hWd
      clear hWd
      refine Or.inl ⟨rfl, ?_⟩
      go_simp
      (with_reducible refine (pick_p cb A L c (Q + 2 * j) 3 W (by rw [HWd.out]; exact Hmj.out.cur.since (since_drew (since_refl _))) (by have := HQ1.out; have := Hil.out; omega) (by omega)).mono ?_)
      rintro e W' ⟨x, rfl, hx, hcu, hC⟩
      refine ⟨_, rfl, seen_cell hW hpc _ hC, ?_⟩
      replace hW := seen_cell hW hpc _ hC
      have hS1 : Since wr W := (by rw [HWd.out]; exact since_drew (since_refl _))
      have hC3 : Seen cb wr W' := ((Seen.refl cb wr).after hS1).trans hC
      have Hmw := Lib.hid (Hmj.out.seen hC3 hcu hcb Hpb.out.1 HBj.out)
      have Hrw : Hid (BoxN W' (pb + 1) (.slice none 0 0) (.slice none 0 0) (.slice none 0 0)) := (hC3.block _ Hrbj.out.lt (by have := Hpb.out; omega)).trans Hrbj.out
      have Hsw : Hid (wa.heap.size ≤ W'.heap.size) := Nat.le_trans Hszj.out hC3.size
      clear hC hcu hC3 hS1
      (try simp only [zA])
      simp only [TFlow]
      obtain ⟨q1, q2, q3⟩ := Hmw.out.own.setIn (k := j) (x : Int) (by show j < ys.length; have := Hyl.out; omega)
      obtain ⟨z0, q4⟩ := Hmw.out.own.inCell (j := j) (by show j < ys.length; have := Hyl.out; omega)
      have hgp : gi ≠ pb := fun e => Hmw.out.nb (e ▸ q1)
      have hgr : gi ≠ pb + 1 := fun e => Hrn.out (e ▸ q1)
      have hgB := (Hmw.out.own.range gi q1).1
      have hmf : Mb cb B pb A L c (Q + 2 * (j + 1)) w (W'.setCell ⟨gi, j, none⟩ (.int .i64 (x : Int))) (.slice (some ⟨g, 0, none⟩) N.ends.length c1') (.slice AI' N.ids.length cI') (.slice (some ⟨gi, 0, none⟩) N.inputs.length cN') { N with inputs := ys.set j (x : Int) } S2 :=
       ⟨q3, Hmw.out.box.set hgp, Hmw.out.nb, (Hmw.out.cur.mono (by omega)).keep (fun q hq => Below.heap_setCell _ _ _ _ (by show q ≠ gi; omega)), Hmw.out.far.setCell (p := ⟨gi, j, none⟩) (.inl hgB) _⟩
      have Hmf := Lib.hid hmf
      have Hrf : Hid (BoxN (W'.setCell ⟨gi, j, none⟩ (.int .i64 (x : Int))) (pb + 1) (.slice none 0 0) (.slice none 0 0) (.slice none 0 0)) := Hrw.out.other (Ne.symm hgr)
      have Hsf : Hid (wa.heap.size ≤ (W'.setCell ⟨gi, j, none⟩ (.int .i64 (x : Int))).heap.size) := by show _ ≤ _; rw [sizeSet]; exact Hsw.out
      clear q1 q3 hgp hgr hgB hmf hx
      go_wp2
      go_roundw
      case rel => exact ⟨j + 1, _, by omega, by first | rfl | go_num, by rw [List.length_set]; exact Hyl.out, Hmf.out, Hrf.out, Hsf.out⟩
      case measure => simp [intOf]; omega
     ·obtain rfl : j = N.inputs.length := by omega
      have Hmz := Hmj
      have Hrz := Hrbj
      have HQ2 := HQ1.out
      have hsz3 : Shp N { N with inputs := ys } := ⟨rfl, Hyl.out, rfl, fun k es he => ⟨es, he, rfl⟩⟩
      have Hshz := Lib.hid (Hsh.out.trans hsz3)
      have Hgz := Lib.hid (Hgd.out.sh hsz3 (fun k es he e hm => by
       obtain ⟨a, b, fs, h1, h2, h3⟩ := Hgd.out.wf k es he e hm
       exact ⟨a, b, fs, h1, h2, h3⟩))
      obtain ⟨NZ, hNZ⟩ : ∃ z, z = ({ N with inputs := ys } : Net) := ⟨_, rfl⟩
      rw [← hNZ] at Hshz Hgz Hmz
      have Hil2 := Lib.hid Hil.out
      clear hNZ hsz3 Hmj hjl hj
      have HQ3 : Hid (Q + 2 * N.inputs.length ≤ P + 100000) := by show _ ≤ _; have := Hil.out; omega
      clear HQ2
      have hbb := Hmz.out.box.cells
      obtain ⟨k0, k1, k2, -, -, -⟩ := hbb
      have hrr := Hrz.out.box.cells
      obtain ⟨e0, e1, e2, f0, f1, f2⟩ := hrr
      go_wp2
      refine bodyPost_ret (v := .agg #[.slice (some ⟨g, 0, none⟩) N.ends.length c1', .slice AI' N.ids.length cI', .slice AN' N.inputs.length cN']) (by simp [results, Tryz.results156, go_sem, *]) rfl ?_
      refine ⟨_, _, _, NZ, S2, rfl, Hmz.out.own.stable (fun q hq => ?_), ⟨Hshz.out, Hgz.out⟩, Hmz.out.cur.mono HQ3.out |>.keep (fun q hq => ?_), ?_⟩
      ·have hq1 : q ≠ pb + 1 := fun e => Hrn.out (e ▸ hq)
       rw [Below.heap_setCell _ _ _ q (by exact hq1), Below.heap_setCell _ _ _ q (by exact hq1), Below.heap_setCell _ _ _ q (by exact hq1)]
      ·have hq1 : q ≠ pb + 1 := by have := Hpb.out; omega
       rw [Below.heap_setCell _ _ _ q (by exact hq1), Below.heap_setCell _ _ _ q (by exact hq1), Below.heap_setCell _ _ _ q (by exact hq1)]
      ·have hB1 : B ≤ pb + 1 := by have := Hpb.out; omega
       exact ((Hmz.out.far.setCell (p := ⟨pb + 1, 0, none⟩) (.inl hB1) _).setCell (p := ⟨pb + 1, 1, none⟩) (.inl hB1) _).setCell (p := ⟨pb + 1, 2, none⟩) (.inl hB1) _
end Go.Proofs.YtgmdpppljkmabaaGreat
namespace Go.Proofs.YtgmdpppljkmabaaGreat
open Go Go.RowKit
/-! a join and a stub keep a network well formed -/
theorem row_add {n : Net} {v : Nat} (hv : v < n.ends.length) (e : Int × Int) (k : Nat) : rowN (addE n v e) k = if k = v then rowN n v ++ [e] else rowN n k := by
 unfold rowN addE
 simp only [List.getD_eq_getElem?_getD]
 by_cases h : k = v
 ·subst h
  rw [if_pos rfl, List.getElem?_set_self hv]
  rfl
 ·rw [if_neg h, List.getElem?_set_ne (Ne.symm h)]
theorem row_of {n : Net} {k : Nat} {es : List (Int × Int)} (h : n.ends[k]? = some es) : rowN n k = es := by
 unfold rowN
 rw [List.getD_eq_getElem?_getD, h]
 rfl
theorem InN.add {n : Net} {v : Nat} (hv : v < n.ends.length) (e : Int × Int) {x : Int × Int} (h : InN n x) : InN (addE n v e) x := by
 obtain ⟨a, b, fs, h1, h2, h3⟩ := h
 have ha : a < (addE n v e).ends.length := by rw [addE_len]; exact lt_of_get h2
 refine ⟨a, b, _, h1, rowN_get ha, ?_⟩
 rw [row_add hv, row_of h2]
 split
 ·rename_i h; subst h; rw [row_of h2, List.length_append]; omega
 ·exact h3
theorem AllIn.add {m n : Net} {v : Nat} (h : AllIn m n) (hv : v < n.ends.length) {e : Int × Int} (he : InN m e) : AllIn m (addE n v e) := fun k es hk x hx => by
 have h1 := row_of hk
 rw [row_add hv] at h1
 have hkl : k < n.ends.length := by have := lt_of_get hk; rwa [addE_len] at this
 split at h1
 ·rw [← h1] at hx
  rcases List.mem_append.1 hx with h2 | h2
  ·exact h v _ (rowN_get hv) x h2
  ·rw [List.mem_singleton.1 h2]; exact he
 ·rw [← h1] at hx
  exact h k _ (rowN_get hkl) x hx
theorem wf_join {n : Net} {v u : Nat} (h : WfN n) (hv : v < n.ends.length) (hu : u < n.ends.length) : WfN (joinN n v u) := by
 have hu1 : u < (addE n v ((u : Int), if v = u then ((rowN n u).length : Int) + 1 else ((rowN n u).length : Int))).ends.length := by rw [addE_len]; exact hu
 have hl : (joinN n v u).ends.length = n.ends.length := by unfold joinN; rw [addE_len, addE_len]
 have hrow : ∀ k, rowN (joinN n v u) k = if k = u then (if u = v then rowN n v ++ [((u : Int), if v = u then ((rowN n u).length : Int) + 1 else ((rowN n u).length : Int))] else rowN n u) ++ [((v : Int), ((rowN n v).length : Int))] else if k = v then rowN n v ++ [((u : Int), if v = u then ((rowN n u).length : Int) + 1 else ((rowN n u).length : Int))] else rowN n k := fun k => by
  unfold joinN
  rw [row_add hu1, row_add hv, row_add hv]
 have h0 : AllIn (joinN n v u) n := fun k es hk x hx => ((h k es hk x hx).add hv _).add hu1 _
 have e1 : InN (joinN n v u) ((v : Int), ((rowN n v).length : Int)) := by
  refine ⟨v, (rowN n v).length, _, rfl, rowN_get (by omega), ?_⟩
  rw [hrow]
  by_cases e : v = u
  ·subst e; simp
  ·rw [if_neg e, if_pos rfl]; simp
 have e2 : InN (joinN n v u) ((u : Int), if v = u then ((rowN n u).length : Int) + 1 else ((rowN n u).length : Int)) := by
  by_cases e : v = u
  ·subst e
   refine ⟨v, (rowN n v).length + 1, _, by simp, rowN_get (by omega), ?_⟩
   rw [hrow]; simp
  ·refine ⟨u, (rowN n u).length, _, by rw [if_neg e], rowN_get (by omega), ?_⟩
   rw [hrow, if_pos rfl, if_neg (Ne.symm e)]; simp
 exact (h0.add hv e2).add hu1 e1
theorem row_join {n : Net} {v u : Nat} (hv : v < n.ends.length) (hu : u < n.ends.length) (k : Nat) : (rowN (joinN n v u) k).length = (rowN n k).length + (if k = u then 1 else 0) + (if k = v then 1 else 0) := by
 have hu1 : u < (addE n v ((u : Int), if v = u then ((rowN n u).length : Int) + 1 else ((rowN n u).length : Int))).ends.length := by rw [addE_len]; exact hu
 unfold joinN
 rw [row_add hu1, row_add hv, row_add hv]
 by_cases a : k = u
 ·subst a
  by_cases b : k = v
  ·subst b; simp
  ·simp [b]
 ·by_cases b : k = v
  ·subst b; simp [a]
  ·simp [a, b]
theorem join_len (n : Net) (v u : Nat) : (joinN n v u).ends.length = n.ends.length := by unfold joinN; rw [addE_len, addE_len]
theorem Gd.join {R M : Nat} {n : Net} {v u : Nat} (h : Gd R M n) (hv : v < n.ends.length) (hu : u < n.ends.length) : Gd (R + 2) M (joinN n v u) := by
 refine ⟨by rw [join_len]; exact h.ends, fun k es hk => ?_, h.ids, by rw [join_len]; exact h.inputs, wf_join h.wf hv hu⟩
 have h1 := row_of hk
 have hkl : k < n.ends.length := by have := lt_of_get hk; rwa [join_len] at this
 rw [← h1, row_join hv hu]
 have := h.row k _ (rowN_get hkl)
 split <;> split <;> omega
theorem Gd.mono {R R' M M' : Nat} {n : Net} (h : Gd R M n) (hR : R ≤ R') (hM : M ≤ M') : Gd R' M' n := ⟨by have := h.ends; omega, fun k es hk => by have := h.row k es hk; omega, by have := h.ids; omega, h.inputs, h.wf⟩
theorem Gd.empty {M m : Nat} (hm : m ≤ M) : Gd 0 M (emptyNet m) := ⟨by simp [emptyNet]; omega, fun k es hk => by
 have := List.mem_of_getElem? hk
 simp [emptyNet] at this
 rw [this.2]; simp, by simp [emptyNet], by simp [emptyNet], fun k es hk e he => by
 have := List.mem_of_getElem? hk
 simp [emptyNet] at this
 rw [this.2] at he
 simp at he⟩
theorem wf_stub {n : Net} {v : Nat} (h : WfN n) (hv : v < n.ends.length) : WfN (stubN n v) := by
 have h0 : AllIn (stubN n v) n := fun k es hk x hx => (h k es hk x hx).add hv _
 have hl : (stubN n v).ends.length = n.ends.length := addE_len _ _ _
 refine h0.add hv ⟨v, (rowN n v).length, _, rfl, rowN_get (by omega), ?_⟩
 unfold stubN
 rw [row_add hv, if_pos rfl]
 simp
theorem row_stub {n : Net} {v : Nat} (hv : v < n.ends.length) (k : Nat) : (rowN (stubN n v) k).length = (rowN n k).length + (if k = v then 1 else 0) := by
 unfold stubN
 rw [row_add hv]
 by_cases b : k = v
 ·subst b; simp
 ·simp [b]
theorem stub_len (n : Net) (v : Nat) : (stubN n v).ends.length = n.ends.length := addE_len _ _ _
theorem Gd.stub {R M : Nat} {n : Net} {v : Nat} (h : Gd R M n) (hv : v < n.ends.length) : Gd (R + 1) M (stubN n v) := by
 refine ⟨by rw [stub_len]; exact h.ends, fun k es hk => ?_, h.ids, by rw [stub_len]; exact h.inputs, wf_stub h.wf hv⟩
 have h1 := row_of hk
 have hkl : k < n.ends.length := by have := lt_of_get hk; rwa [stub_len] at this
 rw [← h1, row_stub hv]
 have := h.row k _ (rowN_get hkl)
 split <;> omega
end Go.Proofs.YtgmdpppljkmabaaGreat
