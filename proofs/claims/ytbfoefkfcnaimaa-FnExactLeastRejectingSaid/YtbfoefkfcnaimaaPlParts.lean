import Derived.Test.YtbfoefkfcnaimaaPartsOf
import Derived.Test.YtbfoefkfcnaimaaParts
namespace Go.Proofs.Ytbfoefkfcnaimaa
open Go.RowKit
/-- the parts of a label -/
def partsL (s l : Int) : List Int := pDiv l (rangesL s).reverse :: (pRem l (rangesL s).reverse).reverse
theorem partsOf_any (s l : Int) (h0 : 0 ≤ l) (h1 : l ≤ 999999999999) (w : World) :
    Calls Try.prog 154 #[.int .i64 s, .int .i64 l] w fun e W' => ∃ v, e = .returned v ∧ Own W' w.heap.size v (partsL s l) ∧ Below w.heap.size w W' :=
  callsIn_wide.1 (partsOf_in 4 (Nat.le_refl _) s l h0 h1 w)

set_option maxHeartbeats 1000000 in
theorem plParts5 (l : Int) (h0 : 0 ≤ l) (h1 : l ≤ 999999999999) (w : World) :
    Calls Try.prog 152 #[.int .i64 5, .int .i64 l] w fun e w' => ∃ u, e = .returned u ∧ Own w' w.heap.size u (partsL 5 l) ∧ Below w.heap.size w w' := by
  have hfin := Lib.hid (show partsL 5 l = [l / 2 / 10 / 100, (l / 2 / 10) % 100, (l / 2) % 10, l % 2] by simp [partsL, rangesL, pDiv, pRem])
  go_enter Try.func152, Try.ntmps152
  go_wp2_with fail
  refine (plRanges_any _ _).mono ?_
  rintro e w1 ⟨u, rfl, ho, hb1⟩
  obtain ⟨g, cc, rfl, hg, hg2, hcc, hcl⟩ := Own.lit (show Own w1 _ u (100 :: [10, 2]) from ho)
  have r0 := hcl 0 100 rfl
  have r1 := hcl 1 10 rfl
  have r2 := hcl 2 2 rfl
  clear hcl
  have Hb1 := Lib.hid hb1
  clear ho hb1
  go_wp2_with (at_make; refine mk_ints _ rfl _ _ rfl _ _ 4 rfl rfl rfl rfl (by omega) ?_; intro w2 ho2 hb2 hz2)
  have Ho2 := Lib.hid ho2
  have Hb2 := Lib.hid hb2
  have c0 := ho2.cell (k := 0) (x := 0) rfl
  have f0 := ho2.free 0
  have c1 := ho2.cell (k := 1) (x := 0) rfl
  have f1 := ho2.free 1
  have c2 := ho2.cell (k := 2) (x := 0) rfl
  have f2 := ho2.free 2
  have c3 := ho2.cell (k := 3) (x := 0) rfl
  have f3 := ho2.free 3
  have q0 := bc hb2 r0
  have q1 := bc hb2 r1
  have q2 := bc hb2 r2
  clear ho2 hb2 r0 r1 r2
  go_wp2
  refine wp_loop_rounds 4 ?_
  iterate 4
    rw [rounds_succ]
    go_wp2
  go_ret
  refine ⟨_, rfl, ?_, ?_⟩
  · rw [hfin.out]
    exact Own.mono ((((Ho2.out.set (k := 3) (l % 2)).set (k := 2) ((l / 2) % 10)).set (k := 1) ((l / 2 / 10) % 100)).set (k := 0) (l / 2 / 10 / 100)) Hb1.out.size
  · exact (((((Hb1.out.trans (Hb2.out.mono Hb1.out.size)).setCell Hb1.out.size _).setCell Hb1.out.size _).setCell Hb1.out.size _).setCell Hb1.out.size _)
set_option maxHeartbeats 1000000 in
theorem plParts4 (l : Int) (h0 : 0 ≤ l) (h1 : l ≤ 999999999999) (w : World) :
    Calls Try.prog 152 #[.int .i64 4, .int .i64 l] w fun e w' => ∃ u, e = .returned u ∧ Own w' w.heap.size u (partsL 4 l) ∧ Below w.heap.size w w' := by
  have hfin := Lib.hid (show partsL 4 l = [l / 100, l % 100] by simp [partsL, rangesL, pDiv, pRem])
  go_enter Try.func152, Try.ntmps152
  go_wp2_with fail
  refine (plRanges_any _ _).mono ?_
  rintro e w1 ⟨u, rfl, ho, hb1⟩
  obtain ⟨g, cc, rfl, hg, hg2, hcc, hcl⟩ := Own.lit (show Own w1 _ u (100 :: []) from ho)
  have r0 := hcl 0 100 rfl
  clear hcl
  have Hb1 := Lib.hid hb1
  clear ho hb1
  go_wp2_with (at_make; refine mk_ints _ rfl _ _ rfl _ _ 2 rfl rfl rfl rfl (by omega) ?_; intro w2 ho2 hb2 hz2)
  have Ho2 := Lib.hid ho2
  have Hb2 := Lib.hid hb2
  have c0 := ho2.cell (k := 0) (x := 0) rfl
  have f0 := ho2.free 0
  have c1 := ho2.cell (k := 1) (x := 0) rfl
  have f1 := ho2.free 1
  have q0 := bc hb2 r0
  clear ho2 hb2 r0
  go_wp2
  refine wp_loop_rounds 2 ?_
  iterate 2
    rw [rounds_succ]
    go_wp2
  go_ret
  refine ⟨_, rfl, ?_, ?_⟩
  · rw [hfin.out]
    exact Own.mono ((Ho2.out.set (k := 1) (l % 100)).set (k := 0) (l / 100)) Hb1.out.size
  · exact (((Hb1.out.trans (Hb2.out.mono Hb1.out.size)).setCell Hb1.out.size _).setCell Hb1.out.size _)
set_option maxHeartbeats 1000000 in
theorem plParts1 (l : Int) (s : Int) (hs : s ≠ 4) (hs2 : s ≠ 5) (h0 : 0 ≤ l) (h1 : l ≤ 999999999999) (w : World) :
    Calls Try.prog 152 #[.int .i64 s, .int .i64 l] w fun e w' => ∃ u, e = .returned u ∧ Own w' w.heap.size u (partsL s l) ∧ Below w.heap.size w w' := by
  have hfin := Lib.hid (show partsL s l = [l] by simp [partsL, rangesL, pDiv, pRem, hs, hs2])
  go_enter Try.func152, Try.ntmps152
  go_wp2_with fail
  refine (plRanges_any _ _).mono ?_
  rintro e w1 ⟨u, rfl, ho, hb1⟩
  obtain ⟨A, cc, rfl⟩ := Own.lit0 (show Own w1 _ u [] by have := ho; rwa [show rangesL s = [] by simp [rangesL, hs, hs2]] at this)
  have Hb1 := Lib.hid hb1
  clear ho hb1
  go_wp2_with (at_make; refine mk_ints _ rfl _ _ rfl _ _ 1 rfl rfl rfl rfl (by omega) ?_; intro w2 ho2 hb2 hz2)
  have Ho2 := Lib.hid ho2
  have Hb2 := Lib.hid hb2
  have c0 := ho2.cell (k := 0) (x := 0) rfl
  have f0 := ho2.free 0
  clear ho2 hb2 
  go_wp2
  refine wp_loop_rounds 1 ?_
  iterate 1
    rw [rounds_succ]
    go_wp2
  go_ret
  refine ⟨_, rfl, ?_, ?_⟩
  · rw [hfin.out]
    exact Own.mono (Ho2.out.set (k := 0) (l)) Hb1.out.size
  · exact ((Hb1.out.trans (Hb2.out.mono Hb1.out.size)).setCell Hb1.out.size _)
theorem plParts_any (s l : Int) (h0 : 0 ≤ l) (h1 : l ≤ 999999999999) (w : World) :
    Calls Try.prog 152 #[.int .i64 s, .int .i64 l] w fun e w' => ∃ u, e = .returned u ∧ Own w' w.heap.size u (partsL s l) ∧ Below w.heap.size w w' := by
  by_cases h5 : s = 5
  · subst h5; exact plParts5 l h0 h1 w
  · by_cases h4 : s = 4
    · subst h4; exact plParts4 l h0 h1 w
    · exact plParts1 l s h4 h5 h0 h1 w
end Go.Proofs.Ytbfoefkfcnaimaa
