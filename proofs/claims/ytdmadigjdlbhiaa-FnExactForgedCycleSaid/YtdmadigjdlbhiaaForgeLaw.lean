import Derived.Test.YtdmadigjdlbhiaaForge2
import Derived.Test.YtdmadigjdlbhiaaOpens
namespace Go.Proofs.Ytdmadigjdlbhiaa
open Go.RowKit
theorem forged_cnt (m : Int) : 1 + cntNet (forged m).1 + (forged m).2.1.length ≤ 1000 := by
  cases hm : inB 3 40 m
  · simp [forged, hm, cntNet, cntEE]
  · obtain ⟨h1, h2⟩ := inB_iff.1 hm
    obtain ⟨k, rfl⟩ : ∃ k : Nat, m = k := ⟨m.toNat, by omega⟩
    have h : ∀ k : Fin 41, 1 + cntNet (cycNet k.1) + (upto k.1).length ≤ 1000 := by decide +kernel
    have := h ⟨k, by omega⟩
    simpa [forged, hm] using this
theorem Box3.drew {w : World} {b : Nat} {x y z : Value} (h : Box3 w b x y z) : Box3 w.drew b x y z := h
set_option maxHeartbeats 4000000 in
theorem fnExactForgedCycle_walk (w : World) (m : Int) (_ : -9223372036854775808 ≤ m ∧ m ≤ 9223372036854775807) :
    Calls Try.prog 8 #[.int .i64 m] w fun e w' => e = .returned (.bool true) ∧ Below w.heap.size w w' := by
  have hcnt := forged_cnt m
  generalize hp : forged m = p at hcnt
  have Hp := Lib.hid hp
  clear hp
  obtain ⟨N, xs, b⟩ := p
  simp only at hcnt
  obtain ⟨q, hq⟩ : ∃ q, q = 1 + cntNet N := ⟨_, rfl⟩
  obtain ⟨r, hr⟩ : ∃ r, r = q + xs.length := ⟨_, rfl⟩
  have Hq := Lib.hid hq
  have Hr := Lib.hid hr
  have Hcnt := Lib.hid hcnt
  have hq1 : ((q : Int) < 0) = False := by simp
  have hr1 : ((r : Int) < 0) = False := by simp
  clear hcnt hq hr
  have heq : eqIs xs xs = true := by simp [eqIs]
  go_enter Try.func8, Try.ntmps8
  go_wp2_with fail
  refine (specForged m _).mono ?_
  rw [Hp.out]
  rintro e w1 ⟨ve, vi, vn, u1, S1, rfl, ho1, hi1, _, hb1⟩
  have hn1 := ho1.read
  have hi1' := hi1.ints
  clear ho1 hi1
  obtain ⟨A1, a1, rfl, _⟩ := id hn1.1
  obtain ⟨A2, a2, rfl, _⟩ := id hn1.2.1
  obtain ⟨A3, a3, rfl, _⟩ := id hn1.2.2
  have hba := below_alloc w1 (.cells #[.slice A1 N.ends.length a1, .slice A2 N.ids.length a2, .slice A3 N.inputs.length a3] 39)
  have HN1 := Lib.hid (hn1.keep hba)
  have HI1 := Lib.hid (hi1'.keep hba)
  have HX1 := Lib.hid (Box3.new w1 (.slice A1 N.ends.length a1) (.slice A2 N.ids.length a2) (.slice A3 N.inputs.length a3) 39)
  have HB1 := Lib.hid (hb1.trans (hba.mono hb1.size))
  clear hn1 hi1' hba hb1
  go_wp2_with fail
  refine (implForged m _).mono ?_
  rw [Hp.out]
  rintro e w2 ⟨ve, vi, vn, u2, S2, rfl, ho2, hi2, hd2, hb2⟩
  have hn2 := ho2.read
  obtain ⟨C1, d1, rfl, _⟩ := id hn2.1
  obtain ⟨C2, d2, rfl, _⟩ := id hn2.2.1
  obtain ⟨C3, d3, rfl, _⟩ := id hn2.2.2
  have hbb := below_alloc w2 (.cells #[.slice C1 N.ends.length d1, .slice C2 N.ids.length d2, .slice C3 N.inputs.length d3] 39)
  have hS2 := ho2.range
  have hu2 : ∀ j, u2.ownBlock = some j → w1.heap.size + 1 ≤ j ∧ j < w2.heap.size := fun j hj => by have := World.ownsRow.lt hi2 j hj; simpa using this
  simp only [World.size_alloc] at hS2 ho2 hi2
  have HS2 := Lib.hid hS2
  have HU2 := Lib.hid hu2
  have HD2 := Lib.hid hd2
  have HO2 := Lib.hid (ho2.keep hbb)
  have HI2 := Lib.hid (hi2.keep hbb)
  have HX2 := Lib.hid (Box3.new w2 (.slice C1 N.ends.length d1) (.slice C2 N.ids.length d2) (.slice C3 N.inputs.length d3) 39)
  have HY2 := Lib.hid ((HX1.out.below hb2 (by simp)).alloc (.cells #[.slice C1 N.ends.length d1, .slice C2 N.ids.length d2, .slice C3 N.inputs.length d3] 39))
  have HB2 := Lib.hid (hb2.trans (hbb.mono hb2.size))
  obtain ⟨y0, y1, y2, _⟩ := HY2.out.cells
  have hsz2 : w1.heap.size + 1 ≤ w2.heap.size := by have := hb2.size; simpa using this
  clear hn2 hbb hS2 hu2 hd2 ho2 hi2 hb2
  go_wp2_with fail
  refine (eqNetwork_same _ _ _ _ _ _ N _ HO2.out.read (HN1.out.keep HB2.out)).mono ?_
  rintro e w3 ⟨rfl, hb3⟩
  have HB3 := Lib.hid hb3
  clear hb3 y0 y1 y2
  go_wp2_with fail
  refine (eqIntS_b _ _ xs xs _ (HI2.out.keep HB3.out).ints (HI1.out.keep (HB2.out.trans (HB3.out.mono (by simp; omega))))).mono ?_
  rw [heq]
  rintro e w4 ⟨rfl, hb4⟩
  have HB4 := Lib.hid (HB3.out.trans (hb4.mono HB3.out.size))
  clear hb4
  obtain ⟨x0, x1, x2, _⟩ := (HX2.out.below HB4.out (by simp)).cells
  go_wp2_with fail
  refine (markNetwork_any _ _ _ N 1 _ _ S2 (HO2.out.keep HB4.out) (by have := Hcnt.out; omega)).mono ?_
  rw [← Hq.out]
  rintro e w5 ⟨rfl, ho5, hon5⟩
  have HO5 := Lib.hid ho5
  have HI5 : Hid (Own w5 (w1.heap.size + 1) u2 xs) := ownsRow_stable (HI2.out.keep HB4.out) (fun j hj => hon5.block j (World.ownsRow.lt (HI2.out.keep HB4.out) j (by simpa using hj)).2 (fun hs => HD2.out j hs (by simpa using hj)))
  have HON5 := Lib.hid hon5
  clear ho5 hon5 x0 x1 x2
  go_wp2_with fail
  refine (markIntS_any _ xs q w5 (w1.heap.size + 1) HI5.out (by have := Hcnt.out; have := Hq.out; omega)).mono ?_
  rw [← Hr.out]
  rintro e w6 ⟨rfl, ho6, hg6⟩
  have hon6 : Only (u2.ownBlock.toList ++ S2) w4 w6 := (HON5.out.mono (fun j hj => by simp [hj])).trans ((Only.of_grown hg6).mono (fun j hj => by simp [hj]))
  have hfar : ∀ j ∈ u2.ownBlock.toList ++ S2, w1.heap.size + 1 ≤ j ∧ j < w2.heap.size := fun j hj => by
    rcases List.mem_append.1 hj with h | h
    · exact HU2.out j (by simpa using h)
    · exact HS2.out j h
  have hO6 : OwnNet w6 (w1.heap.size + 1) (.slice C1 N.ends.length d1) (.slice C2 N.ids.length d2) (.slice C3 N.inputs.length d3) (mkNet 1 N) S2 :=
    HO5.out.stable (fun j hj => hg6.block j (HO5.out.range j hj).2 (fun e => HD2.out j hj e.symm))
  have hX4 := HX2.out.below HB4.out (by simp)
  have hX6 : Box3 w6 w2.heap.size (.slice C1 N.ends.length d1) (.slice C2 N.ids.length d2) (.slice C3 N.inputs.length d3) := by
    have hl := hX4.lt
    obtain ⟨t, ht⟩ := hX4
    exact ⟨t, (hon6.block _ hl (fun h => by have := (hfar _ h).2; omega)).trans ht⟩
  have hB6 := HB2.out.trans (Below.trans (HB4.out.mono (show (w1.alloc (.cells #[.slice A1 N.ends.length a1, .slice A2 N.ids.length a2, .slice A3 N.inputs.length a3] 39)).heap.size ≤ _ by simp; omega)) (hon6.below _ (by have := HB4.out.size; simp at this ⊢; omega) (fun j hj => by have := (hfar j hj).1; simpa using this)))
  have HF6 : Hid (∀ W, Below w6.heap.size w6 W → NetIn W (.slice A1 N.ends.length a1) (.slice A2 N.ids.length a2) (.slice A3 N.inputs.length a3) N ∧ IntS W u1 xs ∧ NetIn W (.slice C1 N.ends.length d1) (.slice C2 N.ids.length d2) (.slice C3 N.inputs.length d3) (mkNet 1 N) ∧ IntS W u2 (marks q xs.length) ∧
      Box3 W w1.heap.size (.slice A1 N.ends.length a1) (.slice A2 N.ids.length a2) (.slice A3 N.inputs.length a3) ∧ Box3 W w2.heap.size (.slice C1 N.ends.length d1) (.slice C2 N.ids.length d2) (.slice C3 N.inputs.length d3) ∧ Below w.heap.size w W) := fun W hW => by
    have h1 := hB6.trans (hW.mono hB6.size)
    exact ⟨HN1.out.keep h1, HI1.out.keep h1, hO6.read.keep hW, ho6.ints.keep hW, HX1.out.below h1 (by simp), hX6.below hW hX6.lt, HB1.out.trans (h1.mono (by have := HB1.out.size; simpa using this))⟩
  clear ho6 hg6 hon6 hfar hO6 hX4 hX6 hB6 HN1 HI1 HX1 HB1 HS2 HU2 HD2 HO2 HI2 HX2 HY2 HB2 HB3 HB4 HO5 HI5 HON5
  obtain ⟨_, _, hn, _, _, hx, _⟩ := HF6.out w6 (Below.refl _ _)
  obtain ⟨x0, x1, x2, _⟩ := hx.cells
  have HN := Lib.hid hn
  clear hn hx
  go_wp2_with fail
  refine (heldNetwork_any _ _ _ N 1 _ HN.out (by have := Hcnt.out; omega)).mono ?_
  rw [← Hq.out]
  rintro e w7 ⟨rfl, hb7⟩
  have HB7 := Lib.hid hb7
  clear hb7 x0 x1 x2 HN
  go_wp2_with fail
  refine (heldIntS_any _ q xs.length _ (HF6.out w7 HB7.out).2.2.2.1 (by have := Hcnt.out; have := Hq.out; omega)).mono ?_
  rw [← Hr.out]
  rintro e w7' ⟨rfl, rfl⟩
  go_wp2_with fail
  refine (implForged m _).mono ?_
  rw [Hp.out]
  rintro e w8 ⟨ve, vi, vn, u8, S8, rfl, ho8, hi8, _, hb8⟩
  have hn8 := ho8.read
  obtain ⟨E1, e1, rfl, _⟩ := id hn8.1
  obtain ⟨E2, e2, rfl, _⟩ := id hn8.2.1
  obtain ⟨E3, e3, rfl, _⟩ := id hn8.2.2
  have hbc := below_alloc w8 (.cells #[.slice E1 N.ends.length e1, .slice E2 N.ids.length e2, .slice E3 N.inputs.length e3] 39)
  have HN8 := Lib.hid (hn8.keep hbc)
  have HI8 := Lib.hid (hi8.ints.keep hbc)
  have HB8 := Lib.hid (HB7.out.trans ((hb8.trans (hbc.mono hb8.size)).mono HB7.out.size))
  clear hn8 hbc ho8 hi8 hb8
  obtain ⟨_, _, _, _, hx, _⟩ := HF6.out _ HB8.out
  obtain ⟨y0, y1, y2, _⟩ := hx.cells
  clear hx
  go_wp2_with fail
  refine (eqNetwork_same _ _ _ _ _ _ N _ HN8.out (HF6.out _ HB8.out).1).mono ?_
  rintro e w9 ⟨rfl, hb9⟩
  have HB9 := Lib.hid hb9
  have HC9 := Lib.hid (HB8.out.trans (hb9.mono HB8.out.size))
  clear hb9 y0 y1 y2
  go_wp2_with fail
  refine (eqIntS_b _ _ xs xs _ (HI8.out.keep HB9.out) (HF6.out _ HC9.out).2.1).mono ?_
  rw [heq]
  rintro e w10 ⟨rfl, hb10⟩
  have HC10 := Lib.hid (HC9.out.trans (hb10.mono HC9.out.size))
  clear hb10
  obtain ⟨_, _, _, _, _, hx, _⟩ := HF6.out _ HC10.out
  obtain ⟨x0, x1, x2, _⟩ := hx.cells
  clear hx
  go_wp2_with fail
  refine (heldNetwork_any _ _ _ N 1 _ (HF6.out _ HC10.out).2.2.1 (by have := Hcnt.out; omega)).mono ?_
  rw [← Hq.out]
  rintro e w11 ⟨rfl, hb11⟩
  have HC11 := Lib.hid (HC10.out.trans (hb11.mono HC10.out.size))
  clear hb11 x0 x1 x2
  go_wp2_with fail
  refine (heldIntS_any _ q xs.length _ (HF6.out _ HC11.out).2.2.2.1 (by have := Hcnt.out; have := Hq.out; omega)).mono ?_
  rw [← Hr.out]
  rintro e w12 ⟨rfl, rfl⟩
  go_wp2_with fail
  go_ret
  exact ⟨rfl, (HF6.out _ HC11.out).2.2.2.2.2.2⟩
end Go.Proofs.Ytdmadigjdlbhiaa
