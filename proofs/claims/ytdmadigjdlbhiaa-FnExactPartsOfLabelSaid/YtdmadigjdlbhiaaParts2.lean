import Derived.Test.YtdmadigjdlbhiaaParts
namespace Go.Proofs.Ytdmadigjdlbhiaa
open Go.RowKit
theorem Own.lit {w : World} {base : Nat} {v : Value} {x : Int} {xs : List Int} (h : Own w base v (x :: xs)) : ∃ g c, v = .slice (some ⟨g, 0, none⟩) (xs.length + 1) c ∧ base ≤ g ∧ g < w.heap.size ∧ xs.length + 1 ≤ c ∧ ∀ k y, (x :: xs)[k]? = some y → w.cell? ⟨g, k, none⟩ = some (.int .i64 y) := by
  rcases h.2 with ⟨rfl, h0⟩ | ⟨g, cap, cur, rfl, hb, hg, hnc, hm, hcs, htake⟩
  · simp at h0
  · exact ⟨g, cap, rfl, hb, (Array.getElem?_eq_some_iff.1 hg).1, hnc, fun k y hy => Own.cell h hy⟩
theorem Own.lit0 {w : World} {base : Nat} {v : Value} (h : Own w base v []) : ∃ A c, v = .slice A 0 c := by
  rcases h.2 with ⟨rfl, h0⟩ | ⟨g, cap, cur, rfl, _⟩
  · exact ⟨_, _, rfl⟩
  · exact ⟨_, _, rfl⟩
theorem IntS.lit {w : World} {v : Value} {x : Int} {xs : List Int} (h : IntS w v (x :: xs)) : ∃ b off c, v = .slice (some ⟨b, off, none⟩) (xs.length + 1) c ∧ b < w.heap.size ∧ ∀ k y, (x :: xs)[k]? = some y → w.cell? ⟨b, off + k, none⟩ = some (.int .i64 y) := by
  obtain ⟨A, c, rfl, hlc, hm, hA⟩ := h
  obtain ⟨b, off, rfl, h0⟩ := hA 0 x rfl
  refine ⟨b, off, c, rfl, World.block_lt_of_cell? w _ h0, fun k y hy => ?_⟩
  obtain ⟨b', off', he, hc⟩ := hA k y hy
  injection he with he
  injection he with h1 h2
  subst h1 h2
  exact hc
theorem plJoin5 (v : Value) (a b c d : Int) (w : World) (h : IntS w v [a, b, c, d]) (ha : 0 ≤ a) (ha' : a ≤ 999999999999) (hb : 0 ≤ b) (hb' : b ≤ 99) (hc : 0 ≤ c) (hc' : c ≤ 9) (hd : 0 ≤ d) (hd' : d ≤ 1) :
    Calls Try.prog 35 #[.int .i64 5, v] w fun e w' => e = .returned (.int .i64 (((a * 100 + b) * 10 + c) * 2 + d)) ∧ Below w.heap.size w w' := by
  obtain ⟨B, off, cp, rfl, hB, hcl⟩ := h.lit
  have c0 := hcl 0 a rfl
  have c1 := hcl 1 b rfl
  have c2 := hcl 2 c rfl
  have c3 := hcl 3 d rfl
  clear hcl h
  simp only [Nat.add_zero] at c0
  go_enter Try.func35, Try.ntmps35
  go_wp2_with fail
  refine (plRanges_any _ _).mono ?_
  rintro e w1 ⟨u, rfl, ho, hb1⟩
  obtain ⟨g, cc, rfl, hg, hg2, hcc, hcl⟩ := Own.lit (show Own w1 _ u (100 :: [10, 2]) from ho)
  have r0 := hcl 0 100 rfl
  have r1 := hcl 1 10 rfl
  have r2 := hcl 2 2 rfl
  clear hcl
  have d0 := (hb1.cell (p := ⟨B, off, none⟩) hB).trans c0
  have d1 := (hb1.cell (p := ⟨B, off + 1, none⟩) hB).trans c1
  have d2 := (hb1.cell (p := ⟨B, off + 2, none⟩) hB).trans c2
  have d3 := (hb1.cell (p := ⟨B, off + 3, none⟩) hB).trans c3
  have Hb1 := Lib.hid hb1
  clear ho hb1 c0 c1 c2 c3
  go_wp2
  refine wp_loop_rounds 4 ?_
  iterate 4
    rw [rounds_succ]
    go_wp2
  go_ret
  exact ⟨rfl, Hb1.out⟩
theorem plJoin4 (v : Value) (a b : Int) (w : World) (h : IntS w v [a, b]) (ha : 0 ≤ a) (ha' : a ≤ 999999999999) (hb : 0 ≤ b) (hb' : b ≤ 99) :
    Calls Try.prog 35 #[.int .i64 4, v] w fun e w' => e = .returned (.int .i64 (a * 100 + b)) ∧ Below w.heap.size w w' := by
  obtain ⟨B, off, cp, rfl, hB, hcl⟩ := h.lit
  have c0 := hcl 0 a rfl
  have c1 := hcl 1 b rfl
  clear hcl h
  simp only [Nat.add_zero] at c0
  go_enter Try.func35, Try.ntmps35
  go_wp2_with fail
  refine (plRanges_any _ _).mono ?_
  rintro e w1 ⟨u, rfl, ho, hb1⟩
  obtain ⟨g, cc, rfl, hg, hg2, hcc, hcl⟩ := Own.lit (show Own w1 _ u (100 :: []) from ho)
  have r0 := hcl 0 100 rfl
  clear hcl
  have d0 := (hb1.cell (p := ⟨B, off, none⟩) hB).trans c0
  have d1 := (hb1.cell (p := ⟨B, off + 1, none⟩) hB).trans c1
  have Hb1 := Lib.hid hb1
  clear ho hb1 c0 c1
  go_wp2
  refine wp_loop_rounds 2 ?_
  iterate 2
    rw [rounds_succ]
    go_wp2
  go_ret
  exact ⟨rfl, Hb1.out⟩
theorem plJoin1 (v : Value) (a : Int) (s : Int) (hs : s ≠ 4) (hs2 : s ≠ 5) (w : World) (h : IntS w v [a]) (ha : 0 ≤ a) (ha' : a ≤ 999999999999) :
    Calls Try.prog 35 #[.int .i64 s, v] w fun e w' => e = .returned (.int .i64 (a)) ∧ Below w.heap.size w w' := by
  obtain ⟨B, off, cp, rfl, hB, hcl⟩ := h.lit
  have c0 := hcl 0 a rfl
  clear hcl h
  simp only [Nat.add_zero] at c0
  go_enter Try.func35, Try.ntmps35
  go_wp2_with fail
  refine (plRanges_any _ _).mono ?_
  rintro e w1 ⟨u, rfl, ho, hb1⟩
  obtain ⟨A, cc, rfl⟩ := Own.lit0 (show Own w1 _ u [] by have := ho; rwa [show rangesL s = [] by simp [rangesL, hs, hs2]] at this)
  have d0 := (hb1.cell (p := ⟨B, off, none⟩) hB).trans c0
  have Hb1 := Lib.hid hb1
  clear ho hb1 c0
  go_wp2
  refine wp_loop_rounds 1 ?_
  iterate 1
    rw [rounds_succ]
    go_wp2
  go_ret
  exact ⟨rfl, Hb1.out⟩
end Go.Proofs.Ytdmadigjdlbhiaa
