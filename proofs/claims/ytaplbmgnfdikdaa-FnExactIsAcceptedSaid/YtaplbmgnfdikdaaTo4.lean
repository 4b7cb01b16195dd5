import Derived.Test.YtaplbmgnfdikdaaTo3
namespace Go.Proofs.Ytaplbmgnfdikdaa
open Go.RowKit
theorem Box3.put0 {w : World} {b : Nat} {x y z u : Value} (h : Box3 w b x y z) : Box3 (w.setCell ⟨b, 0, none⟩ u) b u y z := by
  obtain ⟨r, h⟩ := h
  exact ⟨r, by simp [World.setCell, Array.getElem?_modify, h]⟩
theorem Box3.put1 {w : World} {b : Nat} {x y z u : Value} (h : Box3 w b x y z) : Box3 (w.setCell ⟨b, 1, none⟩ u) b x u z := by
  obtain ⟨r, h⟩ := h
  exact ⟨r, by simp [World.setCell, Array.getElem?_modify, h]⟩
theorem Box3.put2 {w : World} {b : Nat} {x y z u : Value} (h : Box3 w b x y z) : Box3 (w.setCell ⟨b, 2, none⟩ u) b x y u := by
  obtain ⟨r, h⟩ := h
  exact ⟨r, by simp [World.setCell, Array.getElem?_modify, h]⟩
set_option maxHeartbeats 4000000 in
theorem toNetwork_any (ve vi vn : Value) (n : Net) (w : World) (h : NetIn w ve vi vn n) (hl : szNet n ≤ 1048576) : Calls Try.prog 17 #[.agg #[ve, vi, vn]] w (NewNet w n) := by
  have hl1 : szEE n.ends ≤ 1048576 := by unfold szNet at hl; omega
  have hl2 : n.ids.length ≤ 17592186044416 := by unfold szNet at hl; omega
  have hl3 : n.inputs.length ≤ 17592186044416 := by unfold szNet at hl; omega
  obtain ⟨A1, c1, hve, _⟩ := id h.1
  obtain ⟨A2, c2, hvi, _⟩ := id h.2.1
  obtain ⟨A3, c3, hvn, _⟩ := id h.2.2
  subst hve hvi hvn
  obtain ⟨wa, hwa⟩ : ∃ wa, wa = ((w.alloc (.cells #[.slice A1 n.ends.length c1, .slice A2 n.ids.length c2, .slice A3 n.inputs.length c3] 25)).alloc (.cells #[.slice none 0 0, .slice none 0 0, .slice none 0 0] 31)).alloc (.cells #[.slice none 0 0, .slice none 0 0, .slice none 0 0] 31) := ⟨_, rfl⟩
  have hba : Below w.heap.size w wa := by rw [hwa]; exact below3 _ _ _ _
  have hsa : wa.heap.size = w.heap.size + 3 := by rw [hwa]; simp
  have b1 : Box3 wa w.heap.size (.slice A1 n.ends.length c1) (.slice A2 n.ids.length c2) (.slice A3 n.inputs.length c3) := by rw [hwa]; exact ((Box3.new _ _ _ _ _).alloc _).alloc _
  have b2 : Box3 wa (w.heap.size + 1) (.slice none 0 0) (.slice none 0 0) (.slice none 0 0) := by
    rw [hwa]
    have := (Box3.new (w.alloc (.cells #[.slice A1 n.ends.length c1, .slice A2 n.ids.length c2, .slice A3 n.inputs.length c3] 25)) (.slice none 0 0) (.slice none 0 0) (.slice none 0 0) 31).alloc (.cells #[.slice none 0 0, .slice none 0 0, .slice none 0 0] 31)
    simpa using this
  have b3 : Box3 wa (w.heap.size + 2) (.slice none 0 0) (.slice none 0 0) (.slice none 0 0) := by
    rw [hwa]
    have := Box3.new ((w.alloc (.cells #[.slice A1 n.ends.length c1, .slice A2 n.ids.length c2, .slice A3 n.inputs.length c3] 25)).alloc (.cells #[.slice none 0 0, .slice none 0 0, .slice none 0 0] 31)) (.slice none 0 0) (.slice none 0 0) (.slice none 0 0) 31
    simpa using this
  have hn := h.keep hba
  have H1 := Lib.hid hn
  rw [hwa] at H1
  have Ha := Lib.hid hwa
  have Hba := Lib.hid hba
  have B1 := Lib.hid b1
  have B2 := Lib.hid b2
  have B3 := Lib.hid b3
  have Hn := Lib.hid hn
  have H0 := Lib.hid h
  clear hwa hba b1 b2 b3 hn h hl
  go_enter Try.func17, Try.ntmps17
  go_wp2_with fail
  refine (toEndSS_any _ n.ends _ (by exact H1.out.1) hl1).mono ?_
  rw [← Ha.out]
  rintro e w1 ⟨g, S1, rfl, ho1, hb1⟩
  have hs1 := hb1.size
  obtain ⟨W1, hW1⟩ : ∃ W1, W1 = w1.setCell ⟨w.heap.size + 2, 0, none⟩ (.slice (some ⟨g, 0, none⟩) n.ends.length n.ends.length) := ⟨_, rfl⟩
  have b1 : Box3 W1 w.heap.size (.slice A1 n.ends.length c1) (.slice A2 n.ids.length c2) (.slice A3 n.inputs.length c3) := by rw [hW1]; exact (B1.out.below hb1 (by omega)).set (by simp)
  have b2 : Box3 W1 (w.heap.size + 1) (.slice none 0 0) (.slice none 0 0) (.slice none 0 0) := by rw [hW1]; exact (B2.out.below hb1 (by omega)).set (by simp)
  have b3 : Box3 W1 (w.heap.size + 2) (.slice (some ⟨g, 0, none⟩) n.ends.length n.ends.length) (.slice none 0 0) (.slice none 0 0) := by rw [hW1]; exact (B3.out.below hb1 (by omega)).put0
  obtain ⟨q0, q1, q2, f0, f1, f2⟩ := (B3.out.below hb1 (by omega)).cells
  obtain ⟨p0, p1, p2, _⟩ := b1.cells
  rw [hW1] at p1
  go_wp2_with fail
  have hB1 : Below w.heap.size w W1 := by rw [hW1]; exact (Hba.out.trans (hb1.mono (by omega))).setCell (by simp) _
  have HB1 := Lib.hid hB1
  have HI : Hid (IntS W1 (.slice A2 n.ids.length c2) n.ids) := H0.out.2.1.keep hB1
  have HO1 : Hid (OwnEE W1 wa.heap.size (.slice (some ⟨g, 0, none⟩) n.ends.length n.ends.length) n.ends S1) := by
    rw [hW1]
    exact lawEE.stable ho1 (fun j hj => Below.heap_setCell _ _ _ _ (by have := (lawEE.range ho1 j hj).1; show j ≠ w.heap.size + 2; omega))
  have X1 := Lib.hid b1
  have X2 := Lib.hid b2
  have X3 := Lib.hid b3
  have HW1 := Lib.hid hW1
  have hsW1 : wa.heap.size ≤ W1.heap.size := by rw [hW1]; simpa using hs1
  clear hB1 b1 b2 b3 p0 p1 p2 q0 q1 q2 f0 f1 f2 ho1 hb1 hW1
  refine (toIntS_any _ n.ids _ (by rw [← HW1.out]; exact HI.out) hl2).mono ?_
  rw [← HW1.out]
  rintro e w2 ⟨u2, rfl, ho2, hb2⟩
  have hs2 := hb2.size
  obtain ⟨D2, d2, hu2, _⟩ := id ho2.ints
  subst hu2
  obtain ⟨W2, hW2⟩ : ∃ W2, W2 = w2.setCell ⟨w.heap.size + 2, 1, none⟩ (.slice D2 n.ids.length d2) := ⟨_, rfl⟩
  have b1 : Box3 W2 w.heap.size (.slice A1 n.ends.length c1) (.slice A2 n.ids.length c2) (.slice A3 n.inputs.length c3) := by rw [hW2]; exact (X1.out.below hb2 (by omega)).set (by simp)
  have b2 : Box3 W2 (w.heap.size + 1) (.slice none 0 0) (.slice none 0 0) (.slice none 0 0) := by rw [hW2]; exact (X2.out.below hb2 (by omega)).set (by simp)
  have b3 : Box3 W2 (w.heap.size + 2) (.slice (some ⟨g, 0, none⟩) n.ends.length n.ends.length) (.slice D2 n.ids.length d2) (.slice none 0 0) := by rw [hW2]; exact (X3.out.below hb2 (by omega)).put1
  obtain ⟨q0, q1, q2, f0, f1, f2⟩ := (X3.out.below hb2 (by omega)).cells
  obtain ⟨p0, p1, p2, _⟩ := b1.cells
  rw [hW2] at p2
  go_wp2_with fail
  have hB2 : Below w.heap.size w W2 := by rw [hW2]; exact (HB1.out.trans (hb2.mono (by omega))).setCell (by simp) _
  have HB2 := Lib.hid hB2
  have HJ : Hid (IntS W2 (.slice A3 n.inputs.length c3) n.inputs) := H0.out.2.2.keep hB2
  have HO2 : Hid (OwnEE W2 wa.heap.size (.slice (some ⟨g, 0, none⟩) n.ends.length n.ends.length) n.ends S1) := by
    rw [hW2]
    have := lawEE.keep HO1.out hb2
    exact lawEE.stable this (fun j hj => Below.heap_setCell _ _ _ _ (by have := (lawEE.range this j hj).1; show j ≠ w.heap.size + 2; omega))
  have HU2 : Hid (Own W2 W1.heap.size (.slice D2 n.ids.length d2) n.ids) := by
    rw [hW2]
    exact ownsRow_stable ho2 (fun j hj => Below.heap_setCell _ _ _ _ (by have := (World.ownsRow.lt ho2 j (by simpa using hj)).1; show j ≠ w.heap.size + 2; omega))
  have hr1 : Hid (∀ j ∈ S1, j < W1.heap.size) := fun j hj => (lawEE.range HO1.out j hj).2
  have Y2 := Lib.hid b2
  have Y3 := Lib.hid b3
  have HW2 := Lib.hid hW2
  have hsW2 : W1.heap.size ≤ W2.heap.size := by rw [hW2]; simpa using hs2
  clear hB2 b1 b2 b3 p0 p1 p2 q0 q1 q2 f0 f1 f2 ho2 hb2 hW2
  refine (toIntS_any _ n.inputs _ (by rw [← HW2.out]; exact HJ.out) hl3).mono ?_
  rw [← HW2.out]
  rintro e w3 ⟨u3, rfl, ho3, hb3⟩
  have hs3 := hb3.size
  obtain ⟨D3, d3, hu3, _⟩ := id ho3.ints
  subst hu3
  obtain ⟨q0, q1, q2, f0, f1, f2⟩ := (Y3.out.below hb3 (by omega)).cells
  obtain ⟨p0, p1, p2, g0, g1, g2⟩ := (Y2.out.below hb3 (by omega)).cells
  have hfin : Hid (∀ t x y z, (∃ S, OwnNet ((((w3.setCell ⟨w.heap.size + 2, 2, none⟩ t).setCell ⟨w.heap.size + 1, 0, none⟩ x).setCell ⟨w.heap.size + 1, 1, none⟩ y).setCell ⟨w.heap.size + 1, 2, none⟩ z) w.heap.size (.slice (some ⟨g, 0, none⟩) n.ends.length n.ends.length) (.slice D2 n.ids.length d2) (.slice D3 n.inputs.length d3) n S) ∧ Below w.heap.size w ((((w3.setCell ⟨w.heap.size + 2, 2, none⟩ t).setCell ⟨w.heap.size + 1, 0, none⟩ x).setCell ⟨w.heap.size + 1, 1, none⟩ y).setCell ⟨w.heap.size + 1, 2, none⟩ z)) := fun t x y z => by
    have hne : ∀ j, wa.heap.size ≤ j → ((((w3.setCell ⟨w.heap.size + 2, 2, none⟩ t).setCell ⟨w.heap.size + 1, 0, none⟩ x).setCell ⟨w.heap.size + 1, 1, none⟩ y).setCell ⟨w.heap.size + 1, 2, none⟩ z).heap[j]? = w3.heap[j]? := fun j hj => by
      rw [Below.heap_setCell _ _ _ _ (by show j ≠ w.heap.size + 1; omega), Below.heap_setCell _ _ _ _ (by show j ≠ w.heap.size + 1; omega), Below.heap_setCell _ _ _ _ (by show j ≠ w.heap.size + 1; omega), Below.heap_setCell _ _ _ _ (by show j ≠ w.heap.size + 2; omega)]
    have k1 := lawEE.keep HO2.out hb3
    have k2 := HU2.out.keep hb3
    refine ⟨⟨_, S1, _, _, lawEE.mono (lawEE.stable k1 fun j hj => hne j (lawEE.range k1 j hj).1) (by omega), ⟨Own.mono (base := W1.heap.size) (ownsRow_stable k2 fun j hj => hne j (by have := (World.ownsRow.lt k2 j (by simpa using hj)).1; omega)) (by omega), rfl⟩, ⟨Own.mono (base := W2.heap.size) (ownsRow_stable ho3 fun j hj => hne j (by have := (World.ownsRow.lt ho3 j (by simpa using hj)).1; omega)) (by omega), rfl⟩, rfl, ?_⟩, ((((HB2.out.trans (hb3.mono (by omega))).setCell (by simp) _).setCell (by simp) _).setCell (by simp) _).setCell (by simp) _⟩
    have i2 : ∀ j, (Value.slice D2 n.ids.length d2).ownBlock = some j → W1.heap.size ≤ j ∧ j < W2.heap.size := fun j hj => ⟨(World.ownsRow.lt HU2.out j hj).1, (World.ownsRow.lt HU2.out j hj).2⟩
    have i3 : ∀ j, (Value.slice D3 n.inputs.length d3).ownBlock = some j → W2.heap.size ≤ j := fun j hj => (World.ownsRow.lt ho3 j hj).1
    rw [List.nodup_append, List.nodup_append]
    refine ⟨lawEE.nodup k1, ⟨?_, ?_, fun a ha b hb hab => ?_⟩, fun a ha b hb hab => ?_⟩
    · cases (Value.slice D2 n.ids.length d2).ownBlock <;> simp
    · cases (Value.slice D3 n.inputs.length d3).ownBlock <;> simp
    · subst hab
      have := i2 a (by simpa using ha)
      have := i3 a (by simpa using hb)
      omega
    · subst hab
      have h1 := hr1.out a ha
      rcases List.mem_append.1 hb with h | h
      · have := i2 a (by simpa using h)
        omega
      · have := i3 a (by simpa using h)
        omega
  clear ho3 hb3
  go_wp2
  refine bodyPost_ret (v := .agg #[.slice (some ⟨g, 0, none⟩) n.ends.length n.ends.length, .slice D2 n.ids.length d2, .slice D3 n.inputs.length d3]) (by simp [results, Try.results17, go_sem, *]) rfl ?_
  exact (hfin.out _ _ _ _).1.elim fun S hS => ⟨_, _, _, S, rfl, hS, (hfin.out _ _ _ _).2⟩
end Go.Proofs.Ytaplbmgnfdikdaa
