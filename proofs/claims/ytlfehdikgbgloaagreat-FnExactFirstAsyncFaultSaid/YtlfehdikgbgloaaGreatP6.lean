/- Parts of the proof: walks of functions and plain laws. -/
import Derived.Test.YtlfehdikgbgloaaGreatP5
namespace Go.Proofs.YtlfehdikgbgloaaGreat
open Go.RowKit
theorem RowLaw.put {β : Type} {R : World → Nat → Value → β → List Nat → Prop} (L : RowLaw R) {w : World} {base : Nat} {v : Value} {x : β} {S : List Nat} (h : R w base v x S) {p : Addr} (hp : p.block < base) (u : Value) : R (w.setCell p u) base v x S := L.stable h fun k hk => Below.heap_setCell _ _ _ _ (by have := (L.range h k hk).1; omega)
theorem sizeSet (w : World) (p : Addr) (u : Value) : (w.setCell p u).heap.size = w.heap.size := by simp [World.setCell]
def BoxA (w : World) (b : Nat) (vs : Array Value) : Prop := ∃ r, w.heap[b]? = some (.cells vs r)
theorem BoxA.lt {w : World} {b : Nat} {vs : Array Value} (h : BoxA w b vs) : b < w.heap.size := by
  obtain ⟨r, h⟩ := h
  exact (Array.getElem?_eq_some_iff.1 h).1
theorem BoxA.below {w w' : World} {B b : Nat} {vs : Array Value} (h : BoxA w b vs) (hb : Below B w w') (hB : b < B) : BoxA w' b vs := by
  obtain ⟨r, h⟩ := h
  exact ⟨r, by rw [hb.block b hB]; exact h⟩
theorem BoxA.set {w : World} {b : Nat} {vs : Array Value} {u : Value} {p : Addr} (h : BoxA w b vs) (ha : p.block ≠ b) : BoxA (w.setCell p u) b vs := by
  obtain ⟨r, h⟩ := h
  exact ⟨r, by rw [Below.heap_setCell _ _ _ _ (fun e => ha e.symm)]; exact h⟩
theorem BoxA.cell {w : World} {b : Nat} {vs : Array Value} (h : BoxA w b vs) (i : Nat) (u : Value) (hi : vs[i]? = some u) : w.cell? ⟨b, i, none⟩ = some u ∧ w.frozen? ⟨b, i, none⟩ = false := by
  obtain ⟨r, h⟩ := h
  exact ⟨by simp [World.cell?, h, hi], by simp [World.frozen?, h]⟩
theorem BoxA.alloc {w : World} {b : Nat} {vs : Array Value} (h : BoxA w b vs) (o : Obj) : BoxA (w.alloc o) b vs := h.below (below_alloc w o) h.lt
theorem BoxA.new (w : World) (vs : Array Value) (t : TypeId) : BoxA (w.alloc (.cells vs t)) w.heap.size vs := ⟨t, by show (w.heap.push _)[w.heap.size]? = _; rw [Array.getElem?_push_size]⟩
def NewAs (w : World) (x : ASt) (e : Ending) (w' : World) : Prop := ∃ a b c d f, e = .returned (.agg #[a, b, c, d, f]) ∧ AsIn w' a b c d f x ∧ Below w.heap.size w w'
set_option maxHeartbeats 8000000 in
theorem toAsyncState_any (a b c d f : Value) (x : ASt) (w : World) (h : AsIn w a b c d f x) (hl : szAs x ≤ 1048576) : Calls Tryz.prog 36 #[.agg #[a, b, c, d, f]] w (NewAs w x) := by
  unfold szAs at hl
  have hl1 : x.rounds.length ≤ 17592186044416 := by omega
  have hl2 : x.before.length ≤ 17592186044416 := by omega
  have hl3 : x.now.length ≤ 17592186044416 := by omega
  have hl4 : szII x.slots ≤ 1048576 := by omega
  have hl5 : szT3 x.flight ≤ 1048576 := by omega
  obtain ⟨A1, z1, hv1, _⟩ := id h.1
  obtain ⟨A2, z2, hv2, _⟩ := id h.2.1
  obtain ⟨A3, z3, hv3, _⟩ := id h.2.2.1
  obtain ⟨A4, z4, hv4, _⟩ := id h.2.2.2.1
  obtain ⟨A5, z5, hv5, _⟩ := id h.2.2.2.2
  subst hv1 hv2 hv3 hv4 hv5
  obtain ⟨wa, hwa⟩ : ∃ wa, wa = ((w.alloc (.cells #[.slice A1 x.rounds.length z1, .slice A2 x.before.length z2, .slice A3 x.now.length z3, .slice A4 x.slots.length z4, .slice A5 x.flight.length z5] 56)).alloc (.cells #[.slice none 0 0, .slice none 0 0, .slice none 0 0, .slice none 0 0, .slice none 0 0] 66)).alloc (.cells #[.slice none 0 0, .slice none 0 0, .slice none 0 0, .slice none 0 0, .slice none 0 0] 66) := ⟨_, rfl⟩
  have hba : Below w.heap.size w wa := by rw [hwa]; exact below3 _ _ _ _
  have hsa : wa.heap.size = w.heap.size + 3 := by rw [hwa]; simp
  have b1 : BoxA wa w.heap.size #[.slice A1 x.rounds.length z1, .slice A2 x.before.length z2, .slice A3 x.now.length z3, .slice A4 x.slots.length z4, .slice A5 x.flight.length z5] := by rw [hwa]; exact ((BoxA.new _ _ _).alloc _).alloc _
  have b2 : BoxA wa (w.heap.size + 1) #[.slice none 0 0, .slice none 0 0, .slice none 0 0, .slice none 0 0, .slice none 0 0] := by
    rw [hwa]
    have := (BoxA.new (w.alloc (.cells #[.slice A1 x.rounds.length z1, .slice A2 x.before.length z2, .slice A3 x.now.length z3, .slice A4 x.slots.length z4, .slice A5 x.flight.length z5] 56)) #[.slice none 0 0, .slice none 0 0, .slice none 0 0, .slice none 0 0, .slice none 0 0] 66).alloc (.cells #[.slice none 0 0, .slice none 0 0, .slice none 0 0, .slice none 0 0, .slice none 0 0] 66)
    simpa using this
  have b3 : BoxA wa (w.heap.size + 2) #[.slice none 0 0, .slice none 0 0, .slice none 0 0, .slice none 0 0, .slice none 0 0] := by
    rw [hwa]
    have := BoxA.new ((w.alloc (.cells #[.slice A1 x.rounds.length z1, .slice A2 x.before.length z2, .slice A3 x.now.length z3, .slice A4 x.slots.length z4, .slice A5 x.flight.length z5] 56)).alloc (.cells #[.slice none 0 0, .slice none 0 0, .slice none 0 0, .slice none 0 0, .slice none 0 0] 66)) #[.slice none 0 0, .slice none 0 0, .slice none 0 0, .slice none 0 0, .slice none 0 0] 66
    simpa using this
  have H0 := Lib.hid h
  have Hba := Lib.hid hba
  have Ha := Lib.hid hwa
  have X0 := Lib.hid b1
  have Y0 := Lib.hid b2
  have Z0 := Lib.hid b3
  have HB0 := Lib.hid hba
  clear h hba hwa b1 b2 b3 hl
  go_enter Tryz.func36, Tryz.ntmps36
  go_wp2_with fail
  rw [← Ha.out]
  refine (toIntS_any _ x.rounds _ (by exact (H0.out.keep HB0.out).1) hl1).mono ?_
  rintro e w1 ⟨v1, rfl, ho1, hb1⟩
  obtain ⟨D1, d1, hu1, _⟩ := id ho1.ints
  subst hu1
  obtain ⟨S1, hS1⟩ : ∃ S, S = (.slice D1 x.rounds.length d1 : Value).ownBlock.toList := ⟨_, rfl⟩
  have ko1 : OwnI w1 wa.heap.size (.slice D1 x.rounds.length d1) x.rounds S1 := ⟨ho1, hS1⟩
  clear hS1
  have hz1 := hb1.size
  have hsz1 : wa.heap.size ≤ wa.heap.size := Nat.le_refl _
  obtain ⟨W1, hW1⟩ : ∃ W1, W1 = w1.setCell ⟨w.heap.size + 2, 0, none⟩ (.slice D1 x.rounds.length d1) := ⟨_, rfl⟩
  obtain ⟨q1, f1⟩ := (Z0.out.below hb1 (by omega)).cell 0 _ rfl
  have b1 : BoxA W1 w.heap.size #[.slice A1 x.rounds.length z1, .slice A2 x.before.length z2, .slice A3 x.now.length z3, .slice A4 x.slots.length z4, .slice A5 x.flight.length z5] := by rw [hW1]; exact (X0.out.below hb1 (by omega)).set (by simp)
  have b2 : BoxA W1 (w.heap.size + 1) #[.slice none 0 0, .slice none 0 0, .slice none 0 0, .slice none 0 0, .slice none 0 0] := by rw [hW1]; exact (Y0.out.below hb1 (by omega)).set (by simp)
  have b3 : BoxA W1 (w.heap.size + 2) #[.slice D1 x.rounds.length d1, .slice none 0 0, .slice none 0 0, .slice none 0 0, .slice none 0 0] := by rw [hW1]; obtain ⟨r, hr⟩ := Z0.out.below hb1 (by omega); exact ⟨r, by simp [World.setCell, Array.getElem?_modify, hr]⟩
  have hB1 : Below w.heap.size w W1 := by rw [hW1]; exact (HB0.out.trans (hb1.mono (by omega))).setCell (by simp) _
  have hsW1 : wa.heap.size ≤ W1.heap.size := by rw [hW1, sizeSet]; omega
  have k1 : OwnI W1 wa.heap.size (.slice D1 x.rounds.length d1) x.rounds S1 := by rw [hW1]; exact RowLaw.put lawI (lawI.mono ko1 hsz1) (by simp; omega) _
  have K1_1 := Lib.hid k1
  clear k1
  have HB1 := Lib.hid hB1
  have HW1 := Lib.hid hW1
  have X1 := Lib.hid b1
  have p1 := (b1.cell 1 _ rfl).1
  rw [hW1] at p1
  have Y1 := Lib.hid b2
  have Z1 := Lib.hid b3
  clear b1
  clear b2 b3 hB1 hb1 ko1 ho1
  clear hW1
  go_wp2_with fail
  clear p1 q1 f1
  rw [← HW1.out]
  refine (toIntS_any _ x.before _ (by exact (H0.out.keep HB1.out).2.1) hl2).mono ?_
  rintro e w2 ⟨v2, rfl, ho2, hb2⟩
  obtain ⟨D2, d2, hu2, _⟩ := id ho2.ints
  subst hu2
  obtain ⟨S2, hS2⟩ : ∃ S, S = (.slice D2 x.before.length d2 : Value).ownBlock.toList := ⟨_, rfl⟩
  have ko2 : OwnI w2 W1.heap.size (.slice D2 x.before.length d2) x.before S2 := ⟨ho2, hS2⟩
  clear hS2
  have hz2 := hb2.size
  have hsz2 : wa.heap.size ≤ W1.heap.size := hsW1
  obtain ⟨W2, hW2⟩ : ∃ W2, W2 = w2.setCell ⟨w.heap.size + 2, 1, none⟩ (.slice D2 x.before.length d2) := ⟨_, rfl⟩
  obtain ⟨q2, f2⟩ := (Z1.out.below hb2 (by omega)).cell 1 _ rfl
  have b1 : BoxA W2 w.heap.size #[.slice A1 x.rounds.length z1, .slice A2 x.before.length z2, .slice A3 x.now.length z3, .slice A4 x.slots.length z4, .slice A5 x.flight.length z5] := by rw [hW2]; exact (X1.out.below hb2 (by omega)).set (by simp)
  have b2 : BoxA W2 (w.heap.size + 1) #[.slice none 0 0, .slice none 0 0, .slice none 0 0, .slice none 0 0, .slice none 0 0] := by rw [hW2]; exact (Y1.out.below hb2 (by omega)).set (by simp)
  have b3 : BoxA W2 (w.heap.size + 2) #[.slice D1 x.rounds.length d1, .slice D2 x.before.length d2, .slice none 0 0, .slice none 0 0, .slice none 0 0] := by rw [hW2]; obtain ⟨r, hr⟩ := Z1.out.below hb2 (by omega); exact ⟨r, by simp [World.setCell, Array.getElem?_modify, hr]⟩
  have hB2 : Below w.heap.size w W2 := by rw [hW2]; exact (HB1.out.trans (hb2.mono (by omega))).setCell (by simp) _
  have hsW2 : wa.heap.size ≤ W2.heap.size := by rw [hW2, sizeSet]; omega
  have k1 : OwnI W2 wa.heap.size (.slice D1 x.rounds.length d1) x.rounds S1 := by rw [hW2]; exact RowLaw.put lawI (lawI.keep K1_1.out hb2) (by simp; omega) _
  have K1_2 := Lib.hid k1
  have k2 : OwnI W2 wa.heap.size (.slice D2 x.before.length d2) x.before S2 := by rw [hW2]; exact RowLaw.put lawI (lawI.mono ko2 hsz2) (by simp; omega) _
  have K2_2 := Lib.hid k2
  clear k1 k2
  have HB2 := Lib.hid hB2
  have HW2 := Lib.hid hW2
  have X2 := Lib.hid b1
  have p2 := (b1.cell 2 _ rfl).1
  rw [hW2] at p2
  have Y2 := Lib.hid b2
  have Z2 := Lib.hid b3
  clear b1
  clear b2 b3 hB2 hb2 ko2 ho2
  clear hW2
  go_wp2_with fail
  clear p2 q2 f2
  rw [← HW2.out]
  refine (toIntS_any _ x.now _ (by exact (H0.out.keep HB2.out).2.2.1) hl3).mono ?_
  rintro e w3 ⟨v3, rfl, ho3, hb3⟩
  obtain ⟨D3, d3, hu3, _⟩ := id ho3.ints
  subst hu3
  obtain ⟨S3, hS3⟩ : ∃ S, S = (.slice D3 x.now.length d3 : Value).ownBlock.toList := ⟨_, rfl⟩
  have ko3 : OwnI w3 W2.heap.size (.slice D3 x.now.length d3) x.now S3 := ⟨ho3, hS3⟩
  clear hS3
  have hz3 := hb3.size
  have hsz3 : wa.heap.size ≤ W2.heap.size := hsW2
  obtain ⟨W3, hW3⟩ : ∃ W3, W3 = w3.setCell ⟨w.heap.size + 2, 2, none⟩ (.slice D3 x.now.length d3) := ⟨_, rfl⟩
  obtain ⟨q3, f3⟩ := (Z2.out.below hb3 (by omega)).cell 2 _ rfl
  have b1 : BoxA W3 w.heap.size #[.slice A1 x.rounds.length z1, .slice A2 x.before.length z2, .slice A3 x.now.length z3, .slice A4 x.slots.length z4, .slice A5 x.flight.length z5] := by rw [hW3]; exact (X2.out.below hb3 (by omega)).set (by simp)
  have b2 : BoxA W3 (w.heap.size + 1) #[.slice none 0 0, .slice none 0 0, .slice none 0 0, .slice none 0 0, .slice none 0 0] := by rw [hW3]; exact (Y2.out.below hb3 (by omega)).set (by simp)
  have b3 : BoxA W3 (w.heap.size + 2) #[.slice D1 x.rounds.length d1, .slice D2 x.before.length d2, .slice D3 x.now.length d3, .slice none 0 0, .slice none 0 0] := by rw [hW3]; obtain ⟨r, hr⟩ := Z2.out.below hb3 (by omega); exact ⟨r, by simp [World.setCell, Array.getElem?_modify, hr]⟩
  have hB3 : Below w.heap.size w W3 := by rw [hW3]; exact (HB2.out.trans (hb3.mono (by omega))).setCell (by simp) _
  have hsW3 : wa.heap.size ≤ W3.heap.size := by rw [hW3, sizeSet]; omega
  have k1 : OwnI W3 wa.heap.size (.slice D1 x.rounds.length d1) x.rounds S1 := by rw [hW3]; exact RowLaw.put lawI (lawI.keep K1_2.out hb3) (by simp; omega) _
  have K1_3 := Lib.hid k1
  have k2 : OwnI W3 wa.heap.size (.slice D2 x.before.length d2) x.before S2 := by rw [hW3]; exact RowLaw.put lawI (lawI.keep K2_2.out hb3) (by simp; omega) _
  have K2_3 := Lib.hid k2
  have k3 : OwnI W3 wa.heap.size (.slice D3 x.now.length d3) x.now S3 := by rw [hW3]; exact RowLaw.put lawI (lawI.mono ko3 hsz3) (by simp; omega) _
  have K3_3 := Lib.hid k3
  clear k1 k2 k3
  have HB3 := Lib.hid hB3
  have HW3 := Lib.hid hW3
  have X3 := Lib.hid b1
  have p3 := (b1.cell 3 _ rfl).1
  rw [hW3] at p3
  have Y3 := Lib.hid b2
  have Z3 := Lib.hid b3
  clear b1
  clear b2 b3 hB3 hb3 ko3 ho3
  clear hW3
  go_wp2_with fail
  clear p3 q3 f3
  rw [← HW3.out]
  refine (toIntSS_any _ x.slots _ (by exact (H0.out.keep HB3.out).2.2.2.1) hl4).mono ?_
  rintro e w4 ⟨g4, S4, rfl, ko4, hb4⟩
  have hz4 := hb4.size
  have hsz4 : wa.heap.size ≤ W3.heap.size := hsW3
  obtain ⟨W4, hW4⟩ : ∃ W4, W4 = w4.setCell ⟨w.heap.size + 2, 3, none⟩ (.slice (some ⟨g4, 0, none⟩) x.slots.length x.slots.length) := ⟨_, rfl⟩
  obtain ⟨q4, f4⟩ := (Z3.out.below hb4 (by omega)).cell 3 _ rfl
  have b1 : BoxA W4 w.heap.size #[.slice A1 x.rounds.length z1, .slice A2 x.before.length z2, .slice A3 x.now.length z3, .slice A4 x.slots.length z4, .slice A5 x.flight.length z5] := by rw [hW4]; exact (X3.out.below hb4 (by omega)).set (by simp)
  have b2 : BoxA W4 (w.heap.size + 1) #[.slice none 0 0, .slice none 0 0, .slice none 0 0, .slice none 0 0, .slice none 0 0] := by rw [hW4]; exact (Y3.out.below hb4 (by omega)).set (by simp)
  have b3 : BoxA W4 (w.heap.size + 2) #[.slice D1 x.rounds.length d1, .slice D2 x.before.length d2, .slice D3 x.now.length d3, .slice (some ⟨g4, 0, none⟩) x.slots.length x.slots.length, .slice none 0 0] := by rw [hW4]; obtain ⟨r, hr⟩ := Z3.out.below hb4 (by omega); exact ⟨r, by simp [World.setCell, Array.getElem?_modify, hr]⟩
  have hB4 : Below w.heap.size w W4 := by rw [hW4]; exact (HB3.out.trans (hb4.mono (by omega))).setCell (by simp) _
  have hsW4 : wa.heap.size ≤ W4.heap.size := by rw [hW4, sizeSet]; omega
  have k1 : OwnI W4 wa.heap.size (.slice D1 x.rounds.length d1) x.rounds S1 := by rw [hW4]; exact RowLaw.put lawI (lawI.keep K1_3.out hb4) (by simp; omega) _
  have K1_4 := Lib.hid k1
  have k2 : OwnI W4 wa.heap.size (.slice D2 x.before.length d2) x.before S2 := by rw [hW4]; exact RowLaw.put lawI (lawI.keep K2_3.out hb4) (by simp; omega) _
  have K2_4 := Lib.hid k2
  have k3 : OwnI W4 wa.heap.size (.slice D3 x.now.length d3) x.now S3 := by rw [hW4]; exact RowLaw.put lawI (lawI.keep K3_3.out hb4) (by simp; omega) _
  have K3_4 := Lib.hid k3
  have k4 : OwnII W4 wa.heap.size (.slice (some ⟨g4, 0, none⟩) x.slots.length x.slots.length) x.slots S4 := by rw [hW4]; exact RowLaw.put lawII (lawII.mono ko4 hsz4) (by simp; omega) _
  have K4_4 := Lib.hid k4
  clear k1 k2 k3 k4
  have HB4 := Lib.hid hB4
  have HW4 := Lib.hid hW4
  have X4 := Lib.hid b1
  have p4 := (b1.cell 4 _ rfl).1
  rw [hW4] at p4
  have Y4 := Lib.hid b2
  have Z4 := Lib.hid b3
  clear b1
  clear b2 b3 hB4 hb4 ko4
  clear hW4
  go_wp2_with fail
  clear p4 q4 f4
  rw [← HW4.out]
  refine (toLetterSSS_any _ x.flight _ (by exact (H0.out.keep HB4.out).2.2.2.2) hl5).mono ?_
  rintro e w5 ⟨g5, S5, rfl, ko5, hb5⟩
  have hz5 := hb5.size
  have hsz5 : wa.heap.size ≤ W4.heap.size := hsW4
  obtain ⟨W5, hW5⟩ : ∃ W5, W5 = w5.setCell ⟨w.heap.size + 2, 4, none⟩ (.slice (some ⟨g5, 0, none⟩) x.flight.length x.flight.length) := ⟨_, rfl⟩
  obtain ⟨q5, f5⟩ := (Z4.out.below hb5 (by omega)).cell 4 _ rfl
  have b2 : BoxA W5 (w.heap.size + 1) #[.slice none 0 0, .slice none 0 0, .slice none 0 0, .slice none 0 0, .slice none 0 0] := by rw [hW5]; exact (Y4.out.below hb5 (by omega)).set (by simp)
  have b3 : BoxA W5 (w.heap.size + 2) #[.slice D1 x.rounds.length d1, .slice D2 x.before.length d2, .slice D3 x.now.length d3, .slice (some ⟨g4, 0, none⟩) x.slots.length x.slots.length, .slice (some ⟨g5, 0, none⟩) x.flight.length x.flight.length] := by rw [hW5]; obtain ⟨r, hr⟩ := Z4.out.below hb5 (by omega); exact ⟨r, by simp [World.setCell, Array.getElem?_modify, hr]⟩
  have hB5 : Below w.heap.size w W5 := by rw [hW5]; exact (HB4.out.trans (hb5.mono (by omega))).setCell (by simp) _
  have hsW5 : wa.heap.size ≤ W5.heap.size := by rw [hW5, sizeSet]; omega
  have k1 : OwnI W5 wa.heap.size (.slice D1 x.rounds.length d1) x.rounds S1 := by rw [hW5]; exact RowLaw.put lawI (lawI.keep K1_4.out hb5) (by simp; omega) _
  have K1_5 := Lib.hid k1
  have k2 : OwnI W5 wa.heap.size (.slice D2 x.before.length d2) x.before S2 := by rw [hW5]; exact RowLaw.put lawI (lawI.keep K2_4.out hb5) (by simp; omega) _
  have K2_5 := Lib.hid k2
  have k3 : OwnI W5 wa.heap.size (.slice D3 x.now.length d3) x.now S3 := by rw [hW5]; exact RowLaw.put lawI (lawI.keep K3_4.out hb5) (by simp; omega) _
  have K3_5 := Lib.hid k3
  have k4 : OwnII W5 wa.heap.size (.slice (some ⟨g4, 0, none⟩) x.slots.length x.slots.length) x.slots S4 := by rw [hW5]; exact RowLaw.put lawII (lawII.keep K4_4.out hb5) (by simp; omega) _
  have K4_5 := Lib.hid k4
  have k5 : OwnTTT W5 wa.heap.size (.slice (some ⟨g5, 0, none⟩) x.flight.length x.flight.length) x.flight S5 := by rw [hW5]; exact RowLaw.put lawTTT (lawTTT.mono ko5 hsz5) (by simp; omega) _
  have K5_5 := Lib.hid k5
  clear k1 k2 k3 k4 k5
  have HB5 := Lib.hid hB5
  have HW5 := Lib.hid hW5
  have Y5 := Lib.hid b2
  have Z5 := Lib.hid b3
  have hfin : Hid (∀ y0 y1 y2 y3 y4, AsIn (((((W5.setCell ⟨w.heap.size + 1, 0, none⟩ y0).setCell ⟨w.heap.size + 1, 1, none⟩ y1).setCell ⟨w.heap.size + 1, 2, none⟩ y2).setCell ⟨w.heap.size + 1, 3, none⟩ y3).setCell ⟨w.heap.size + 1, 4, none⟩ y4) (.slice D1 x.rounds.length d1) (.slice D2 x.before.length d2) (.slice D3 x.now.length d3) (.slice (some ⟨g4, 0, none⟩) x.slots.length x.slots.length) (.slice (some ⟨g5, 0, none⟩) x.flight.length x.flight.length) x ∧ Below w.heap.size w (((((W5.setCell ⟨w.heap.size + 1, 0, none⟩ y0).setCell ⟨w.heap.size + 1, 1, none⟩ y1).setCell ⟨w.heap.size + 1, 2, none⟩ y2).setCell ⟨w.heap.size + 1, 3, none⟩ y3).setCell ⟨w.heap.size + 1, 4, none⟩ y4)) := fun y0 y1 y2 y3 y4 => by
    have r1 := (RowLaw.put lawI (RowLaw.put lawI (RowLaw.put lawI (RowLaw.put lawI (RowLaw.put lawI K1_5.out (p := ⟨w.heap.size + 1, 0, none⟩) (by show w.heap.size + 1 < _; omega) y0) (p := ⟨w.heap.size + 1, 1, none⟩) (by show w.heap.size + 1 < _; omega) y1) (p := ⟨w.heap.size + 1, 2, none⟩) (by show w.heap.size + 1 < _; omega) y2) (p := ⟨w.heap.size + 1, 3, none⟩) (by show w.heap.size + 1 < _; omega) y3) (p := ⟨w.heap.size + 1, 4, none⟩) (by show w.heap.size + 1 < _; omega) y4)
    have r2 := (RowLaw.put lawI (RowLaw.put lawI (RowLaw.put lawI (RowLaw.put lawI (RowLaw.put lawI K2_5.out (p := ⟨w.heap.size + 1, 0, none⟩) (by show w.heap.size + 1 < _; omega) y0) (p := ⟨w.heap.size + 1, 1, none⟩) (by show w.heap.size + 1 < _; omega) y1) (p := ⟨w.heap.size + 1, 2, none⟩) (by show w.heap.size + 1 < _; omega) y2) (p := ⟨w.heap.size + 1, 3, none⟩) (by show w.heap.size + 1 < _; omega) y3) (p := ⟨w.heap.size + 1, 4, none⟩) (by show w.heap.size + 1 < _; omega) y4)
    have r3 := (RowLaw.put lawI (RowLaw.put lawI (RowLaw.put lawI (RowLaw.put lawI (RowLaw.put lawI K3_5.out (p := ⟨w.heap.size + 1, 0, none⟩) (by show w.heap.size + 1 < _; omega) y0) (p := ⟨w.heap.size + 1, 1, none⟩) (by show w.heap.size + 1 < _; omega) y1) (p := ⟨w.heap.size + 1, 2, none⟩) (by show w.heap.size + 1 < _; omega) y2) (p := ⟨w.heap.size + 1, 3, none⟩) (by show w.heap.size + 1 < _; omega) y3) (p := ⟨w.heap.size + 1, 4, none⟩) (by show w.heap.size + 1 < _; omega) y4)
    have r4 := (RowLaw.put lawII (RowLaw.put lawII (RowLaw.put lawII (RowLaw.put lawII (RowLaw.put lawII K4_5.out (p := ⟨w.heap.size + 1, 0, none⟩) (by show w.heap.size + 1 < _; omega) y0) (p := ⟨w.heap.size + 1, 1, none⟩) (by show w.heap.size + 1 < _; omega) y1) (p := ⟨w.heap.size + 1, 2, none⟩) (by show w.heap.size + 1 < _; omega) y2) (p := ⟨w.heap.size + 1, 3, none⟩) (by show w.heap.size + 1 < _; omega) y3) (p := ⟨w.heap.size + 1, 4, none⟩) (by show w.heap.size + 1 < _; omega) y4)
    have r5 := (RowLaw.put lawTTT (RowLaw.put lawTTT (RowLaw.put lawTTT (RowLaw.put lawTTT (RowLaw.put lawTTT K5_5.out (p := ⟨w.heap.size + 1, 0, none⟩) (by show w.heap.size + 1 < _; omega) y0) (p := ⟨w.heap.size + 1, 1, none⟩) (by show w.heap.size + 1 < _; omega) y1) (p := ⟨w.heap.size + 1, 2, none⟩) (by show w.heap.size + 1 < _; omega) y2) (p := ⟨w.heap.size + 1, 3, none⟩) (by show w.heap.size + 1 < _; omega) y3) (p := ⟨w.heap.size + 1, 4, none⟩) (by show w.heap.size + 1 < _; omega) y4)
    exact ⟨⟨r1.1.ints, r2.1.ints, r3.1.ints, r4.read, r5.read⟩, (((((hB5.setCell (p := ⟨w.heap.size + 1, 0, none⟩) (by show w.heap.size ≤ w.heap.size + 1; omega) y0).setCell (p := ⟨w.heap.size + 1, 1, none⟩) (by show w.heap.size ≤ w.heap.size + 1; omega) y1).setCell (p := ⟨w.heap.size + 1, 2, none⟩) (by show w.heap.size ≤ w.heap.size + 1; omega) y2).setCell (p := ⟨w.heap.size + 1, 3, none⟩) (by show w.heap.size ≤ w.heap.size + 1; omega) y3).setCell (p := ⟨w.heap.size + 1, 4, none⟩) (by show w.heap.size ≤ w.heap.size + 1; omega) y4)⟩
  rw [hW5] at hfin
  obtain ⟨t0, u0⟩ := b3.cell 0 _ rfl
  obtain ⟨m0, n0⟩ := b2.cell 0 _ rfl
  obtain ⟨t1, u1⟩ := b3.cell 1 _ rfl
  obtain ⟨m1, n1⟩ := b2.cell 1 _ rfl
  obtain ⟨t2, u2⟩ := b3.cell 2 _ rfl
  obtain ⟨m2, n2⟩ := b2.cell 2 _ rfl
  obtain ⟨t3, u3⟩ := b3.cell 3 _ rfl
  obtain ⟨m3, n3⟩ := b2.cell 3 _ rfl
  obtain ⟨t4, u4⟩ := b3.cell 4 _ rfl
  obtain ⟨m4, n4⟩ := b2.cell 4 _ rfl
  rw [hW5] at t0 m0 n0 t1 m1 n1 t2 m2 n2 t3 m3 n3 t4 m4 n4
  clear u0 u1 u2 u3 u4
  clear b2 b3 hB5 hb5 ko5 hW5
  go_wp2
  refine bodyPost_ret (v := .agg #[.slice D1 x.rounds.length d1, .slice D2 x.before.length d2, .slice D3 x.now.length d3, .slice (some ⟨g4, 0, none⟩) x.slots.length x.slots.length, .slice (some ⟨g5, 0, none⟩) x.flight.length x.flight.length]) (by simp [results, Tryz.results36, go_sem, *]) rfl ?_
  exact ⟨_, _, _, _, _, rfl, (hfin.out _ _ _ _ _).1, (hfin.out _ _ _ _ _).2⟩
end Go.Proofs.YtlfehdikgbgloaaGreat
namespace Go.Proofs.YtlfehdikgbgloaaGreat
open Go.RowKit
/-! rows of clauses: a number, a row of numbers, a number -/
structure Cl where
  state : Int
  inbox : List Int
  next : Int
def ClauseS (w : World) (v : Value) (cs : List Cl) : Prop :=
  ∃ (A : Option Addr) (c : Nat), v = .slice A cs.length c ∧ cs.length ≤ c ∧ c ≤ maxLen ∧
    (∀ k x, cs[k]? = some x → ∃ b off u, A = some ⟨b, off, none⟩ ∧ w.cell? ⟨b, off + k * 3, none⟩ = some (.int .i64 x.state) ∧ w.cell? ⟨b, off + k * 3 + 1, none⟩ = some u ∧ w.cell? ⟨b, off + k * 3 + 2, none⟩ = some (.int .i64 x.next) ∧ IntS w u x.inbox)
theorem ClauseS.keep {w w' : World} {v : Value} {xs : List Cl} (h : ClauseS w v xs) (hb : Below w.heap.size w w') : ClauseS w' v xs := by
  obtain ⟨A, c, hv, hc, hm, hA⟩ := h
  refine ⟨A, c, hv, hc, hm, fun k x hk => ?_⟩
  obtain ⟨b, off, u, hA', h1, h2, h3, h4⟩ := hA k x hk
  exact ⟨b, off, u, hA', bc hb h1, bc hb h2, bc hb h3, h4.keep hb⟩
set_option maxHeartbeats 1000000 in
theorem szClause_any (s : Int) (u : Value) (nx : Int) (xs : List Int) (l : Int) (hl : 0 ≤ l) (hl2 : l ≤ 1048576) (w : World) (h : IntS w u xs) : Calls Tryz.prog 149 #[.agg #[.int .i64 s, u, .int .i64 nx], .int .i64 l] w fun e w' => e = .returned (.int .i64 (left l xs.length)) ∧ Below w.heap.size w w' := by
  have hb0 : Below w.heap.size w (w.alloc (.cells #[.int .i64 s, u, .int .i64 nx] 141)) := below_alloc _ _
  have H1 := Lib.hid (h.keep hb0)
  have Hb0 := Lib.hid hb0
  obtain ⟨A1, z1, rfl, _⟩ := h
  clear hb0
  obtain ⟨q, hq⟩ : ∃ q, q = left l xs.length := ⟨_, rfl⟩
  by_cases c9 : q < 0
  · have hq1 : q = -1 := by rw [hq]; unfold left; split <;> (unfold left at hq; split at hq <;> omega)
    have Hq := Lib.hid hq
    clear hq
    subst hq1
    go_enter Tryz.func149, Tryz.ntmps149
    go_wp2_with fail
    refine (szIntS_any _ xs l hl hl2 _ H1.out).mono ?_
    rw [← Hq.out]
    rintro e w' ⟨rfl, rfl⟩
    go_wp2
    go_ret
    exact ⟨ret_int Hq.out, Hb0.out⟩
  · have Hq := Lib.hid hq
    clear hq
    go_enter Tryz.func149, Tryz.ntmps149
    go_wp2_with fail
    refine (szIntS_any _ xs l hl hl2 _ H1.out).mono ?_
    rw [← Hq.out]
    rintro e w' ⟨rfl, rfl⟩
    go_wp2
    go_ret
    exact ⟨ret_int Hq.out, Hb0.out⟩
def szC (cs : List Cl) : Nat := (cs.map fun c => c.inbox.length).sum
theorem szC_snoc {cs : List Cl} {k : Nat} {x : Cl} (h : cs[k]? = some x) : szC (cs.take (k + 1)) = szC (cs.take k) + x.inbox.length := by
  unfold szC
  rw [List.take_add_one, h]; simp
theorem szC_le (cs : List Cl) (k : Nat) : szC (cs.take k) ≤ szC cs := by
  unfold szC
  conv => rhs; rw [← List.take_append_drop k cs]
  rw [List.map_append, List.sum_append]; omega
def szCl (cs : List Cl) : Nat := cs.length + szC cs
set_option maxHeartbeats 2000000 in
theorem szClauseS_any (v : Value) (ess : List Cl) (l : Int) (hl : 0 ≤ l) (hl2 : l ≤ 1048576) (w : World) (h : ClauseS w v ess) : Calls Tryz.prog 83 #[v, .int .i64 l] w fun e w' => e = .returned (.int .i64 (left l (szCl ess))) ∧ Below w.heap.size w w' := by
  obtain ⟨A, c, rfl, hlc, hm, hA⟩ := h
  unfold maxLen at hm
  have HA := Lib.hid hA
  clear hA
  by_cases h : l - ess.length < 0
  · have hr := Lib.hid (left_neg (m := szCl ess) h (by unfold szCl; omega))
    go_enter Tryz.func83, Tryz.ntmps83
    go_wp2
    go_ret
    exact ⟨ret_int hr.out.symm, Below.refl _ _⟩
  · go_enter Tryz.func83, Tryz.ntmps83
    go_wp2
    go_loopw [1, 5] (fun t i wr => ∃ k : Nat, k ≤ ess.length ∧ i = .int .i64 k ∧ t = .int .i64 (l - ess.length - szC (ess.take k)) ∧ 0 ≤ l - ess.length - szC (ess.take k) ∧ Below w.heap.size w wr) (fun _ i _ => ess.length - (intOf i).toNat)
    case atStart => exact ⟨0, Nat.zero_le _, rfl, by simp [szC], by simp [szC]; omega, Below.refl _ _⟩
    case round =>
      obtain ⟨k, hk, rfl, rfl, hge, hbl⟩ := hrel
      obtain ⟨t, ht⟩ : ∃ t, t = l - ess.length - szC (ess.take k) := ⟨_, rfl⟩
      rw [← ht] at hge ⊢
      have Hbl := Lib.hid hbl
      clear hbl
      by_cases hlt : k < ess.length
      · obtain ⟨es, hes⟩ := getx ess k hlt
        obtain ⟨b, off, u, rfl, hc0, hc1, hc2, hu⟩ := HA.out k es hes
        have k0 := bc Hbl.out hc0
        have k1 := bc Hbl.out hc1
        have k2 := bc Hbl.out hc2
        have Hu := Lib.hid (hu.keep Hbl.out)
        obtain ⟨U1, y1, rfl, _⟩ := hu
        have hs := szC_snoc hes
        have ht2 : t ≤ 1048576 := by omega
        clear hc0 hc1 hc2
        by_cases hneg : t - es.inbox.length < 0
        · have hr := Lib.hid (show left l (szCl ess) = -1 from left_neg (n := ess.length + szC (ess.take (k + 1))) (by omega) (by have := szC_le ess (k + 1); unfold szCl; omega))
          have hlf : left t es.inbox.length = -1 := by unfold left; rw [if_pos hneg]
          have Ht := Lib.hid ht
          clear ht hs hes
          go_wp2_with fail
          refine (szClause_any _ _ _ es.inbox t hge ht2 _ Hu.out).mono ?_
          rw [hlf]
          rintro e w' ⟨rfl, hb⟩
          have Hb := Lib.hid (Hbl.out.trans (hb.mono Hbl.out.size))
          clear hb
          go_wp2
          go_ret
          exact ⟨ret_int hr.out.symm, Hb.out⟩
        · have hlf : left t es.inbox.length = t - es.inbox.length := left_pos hneg
          have Ht := Lib.hid ht
          have Hs := Lib.hid hs
          clear ht hs hes
          go_wp2_with fail
          refine (szClause_any _ _ _ es.inbox t hge ht2 _ Hu.out).mono ?_
          rw [hlf]
          rintro e w' ⟨rfl, hb⟩
          have Hb := Lib.hid (Hbl.out.trans (hb.mono Hbl.out.size))
          clear hb
          go_wp2
          go_roundw
          case rel => exact ⟨k + 1, by omega, by simp, by have := Ht.out; have := Hs.out; congr 1; omega, by have := Ht.out; have := Hs.out; omega, Hb.out⟩
          case measure => simp [intOf]; omega
      · obtain rfl : k = ess.length := by omega
        have hr := Lib.hid (show left l (szCl ess) = t by rw [left_pos (by rw [List.take_length] at ht; unfold szCl; omega), ht, List.take_length]; unfold szCl; omega)
        clear ht
        go_wp2
        go_ret
        exact ⟨ret_int hr.out.symm, Hbl.out⟩
set_option maxHeartbeats 2000000 in
theorem toClause_any (s : Int) (u : Value) (nx : Int) (xs : List Int) (w : World) (h : IntS w u xs) (hl : xs.length ≤ 17592186044416) : Calls Tryz.prog 155 #[.agg #[.int .i64 s, u, .int .i64 nx]] w fun e w' => ∃ v, e = .returned (.agg #[.int .i64 s, v, .int .i64 nx]) ∧ Own w' w.heap.size v xs ∧ Below w.heap.size w w' := by
  obtain ⟨A1, z1, hv1, _⟩ := id h
  subst hv1
  obtain ⟨wa, hwa⟩ : ∃ wa, wa = ((w.alloc (.cells #[.int .i64 s, .slice A1 xs.length z1, .int .i64 nx] 141)).alloc (.cells #[.int .i64 0, .slice none 0 0, .int .i64 0] 144)).alloc (.cells #[.int .i64 s, .slice none 0 0, .int .i64 0] 144) := ⟨_, rfl⟩
  have hba : Below w.heap.size w wa := by rw [hwa]; exact below3 _ _ _ _
  have hsa : wa.heap.size = w.heap.size + 3 := by rw [hwa]; simp
  have b1 : BoxA wa w.heap.size #[.int .i64 s, .slice A1 xs.length z1, .int .i64 nx] := by rw [hwa]; exact ((BoxA.new _ _ _).alloc _).alloc _
  have b2 : BoxA wa (w.heap.size + 1) #[.int .i64 0, .slice none 0 0, .int .i64 0] := by
    rw [hwa]
    have := (BoxA.new (w.alloc (.cells #[.int .i64 s, .slice A1 xs.length z1, .int .i64 nx] 141)) #[.int .i64 0, .slice none 0 0, .int .i64 0] 144).alloc (.cells #[.int .i64 s, .slice none 0 0, .int .i64 0] 144)
    simpa using this
  have b3 : BoxA wa (w.heap.size + 2) #[.int .i64 s, .slice none 0 0, .int .i64 0] := by
    rw [hwa]
    have := BoxA.new ((w.alloc (.cells #[.int .i64 s, .slice A1 xs.length z1, .int .i64 nx] 141)).alloc (.cells #[.int .i64 0, .slice none 0 0, .int .i64 0] 144)) #[.int .i64 s, .slice none 0 0, .int .i64 0] 144
    simpa using this
  have H0 := Lib.hid (h.keep hba)
  have Ha := Lib.hid hwa
  have HB0 := Lib.hid hba
  have X0 := Lib.hid b1
  have Y0 := Lib.hid b2
  have Z0 := Lib.hid b3
  clear h hwa hba b1 b2 b3
  go_enter Tryz.func155, Tryz.ntmps155
  go_wp2_with fail
  rw [← Ha.out]
  refine (toIntS_any _ xs _ (by exact H0.out) hl).mono ?_
  rintro e w1 ⟨v1, rfl, ho1, hb1⟩
  obtain ⟨D1, d1, hu1, _⟩ := id ho1.ints
  subst hu1
  have hz1 := hb1.size
  have c1 := ((X0.out.below hb1 (by omega)).cell 2 _ rfl).1
  have b2 := Y0.out.below hb1 (by omega)
  have b3 := Z0.out.below hb1 (by omega)
  obtain ⟨m0, n0⟩ := b2.cell 0 _ rfl
  obtain ⟨m1, n1⟩ := b2.cell 1 _ rfl
  obtain ⟨m2, n2⟩ := b2.cell 2 _ rfl
  obtain ⟨t0, u0⟩ := b3.cell 0 _ rfl
  obtain ⟨t1, u1⟩ := b3.cell 1 _ rfl
  obtain ⟨t2, u2⟩ := b3.cell 2 _ rfl
  have hfin : Hid (∀ a b c d e, Own (((((w1.setCell ⟨w.heap.size + 2, 1, none⟩ a).setCell ⟨w.heap.size + 2, 2, none⟩ b).setCell ⟨w.heap.size + 1, 0, none⟩ c).setCell ⟨w.heap.size + 1, 1, none⟩ d).setCell ⟨w.heap.size + 1, 2, none⟩ e) w.heap.size (.slice D1 xs.length d1) xs ∧ Below w.heap.size w (((((w1.setCell ⟨w.heap.size + 2, 1, none⟩ a).setCell ⟨w.heap.size + 2, 2, none⟩ b).setCell ⟨w.heap.size + 1, 0, none⟩ c).setCell ⟨w.heap.size + 1, 1, none⟩ d).setCell ⟨w.heap.size + 1, 2, none⟩ e)) := fun a b c d e => by
    have k : OwnI w1 wa.heap.size (.slice D1 xs.length d1) xs _ := ⟨ho1, rfl⟩
    have k5 := RowLaw.put lawI (RowLaw.put lawI (RowLaw.put lawI (RowLaw.put lawI (RowLaw.put lawI k (p := ⟨w.heap.size + 2, 1, none⟩) (by show w.heap.size + 2 < _; omega) a) (p := ⟨w.heap.size + 2, 2, none⟩) (by show w.heap.size + 2 < _; omega) b) (p := ⟨w.heap.size + 1, 0, none⟩) (by show w.heap.size + 1 < _; omega) c) (p := ⟨w.heap.size + 1, 1, none⟩) (by show w.heap.size + 1 < _; omega) d) (p := ⟨w.heap.size + 1, 2, none⟩) (by show w.heap.size + 1 < _; omega) e
    exact ⟨(lawI.mono k5 (by omega)).1, (((((HB0.out.trans (hb1.mono (by omega))).setCell (by simp) _).setCell (by simp) _).setCell (by simp) _).setCell (by simp) _).setCell (by simp) _⟩
  clear b2 b3 ho1 hb1
  go_wp2
  refine bodyPost_ret (v := .agg #[.int .i64 s, .slice D1 xs.length d1, .int .i64 nx]) (by simp [results, Tryz.results155, go_sem, *]) rfl ?_
  exact ⟨_, rfl, (hfin.out _ _ _ _ _).1, (hfin.out _ _ _ _ _).2⟩
end Go.Proofs.YtlfehdikgbgloaaGreat
namespace Go.Proofs.YtlfehdikgbgloaaGreat
open Go.RowKit
/-! a row of clauses of its own -/
def encC (e : Int × Value × Int) : List Value := [.int .i64 e.1, e.2.1, .int .i64 e.2.2]
def OwnC3 : World → Nat → Value → List (Int × Value × Int) → List Nat → Prop := LeafR 144 3 encC
theorem lawC3 : RowLaw OwnC3 := leaf_law _ _ _
theorem encC_get {es : List (Int × Value × Int)} {k : Nat} {x : Int × Value × Int} (h : es[k]? = some x) : (es.flatMap encC)[k * 3]? = some (.int .i64 x.1) ∧ (es.flatMap encC)[k * 3 + 1]? = some x.2.1 ∧ (es.flatMap encC)[k * 3 + 2]? = some (.int .i64 x.2.2) := by
  induction es generalizing k with
  | nil => simp at h
  | cons e es ih =>
    cases k with
    | zero => simp at h; subst h; simp [encC]
    | succ k =>
      have := ih (k := k) (by simpa using h)
      rw [List.flatMap_cons, show (k + 1) * 3 = k * 3 + 3 by omega]
      simp only [encC, List.cons_append, List.nil_append]
      exact ⟨by simpa using this.1, by rw [show k * 3 + 3 + 1 = (k * 3 + 1) + 1 + 1 + 1 by omega]; simpa using this.2.1, by rw [show k * 3 + 3 + 2 = (k * 3 + 2) + 1 + 1 + 1 by omega]; simpa using this.2.2⟩
theorem encC_set {es : List (Int × Value × Int)} {k : Nat} (x : Int × Value × Int) (h : k < es.length) : (((es.flatMap encC).set (k * 3) (.int .i64 x.1)).set (k * 3 + 1) x.2.1).set (k * 3 + 2) (.int .i64 x.2.2) = (es.set k x).flatMap encC := by
  induction es generalizing k with
  | nil => simp at h
  | cons e es ih =>
    cases k with
    | zero => simp [encC]
    | succ k =>
      have := ih (k := k) (by simpa using h)
      rw [List.flatMap_cons, show (k + 1) * 3 = k * 3 + 1 + 1 + 1 by omega]
      simp only [encC, List.cons_append, List.nil_append, List.set_cons_succ, List.flatMap_cons] at this ⊢
      rw [this]
theorem OwnC3.cells {w : World} {base g c n : Nat} {es : List (Int × Value × Int)} {S : List Nat} (h : OwnC3 w base (.slice (some ⟨g, 0, none⟩) n c) es S) {k : Nat} {x : Int × Value × Int} (hx : es[k]? = some x) :
    w.cell? ⟨g, k * 3, none⟩ = some (.int .i64 x.1) ∧ w.cell? ⟨g, k * 3 + 1, none⟩ = some x.2.1 ∧ w.cell? ⟨g, k * 3 + 2, none⟩ = some (.int .i64 x.2.2) ∧ w.frozen? ⟨g, k * 3, none⟩ = false ∧ w.frozen? ⟨g, k * 3 + 1, none⟩ = false ∧ w.frozen? ⟨g, k * 3 + 2, none⟩ = false := by
  obtain ⟨h, _⟩ := h
  have hn := ownsRow_len h
  subst hn
  have := lt_of_get hx
  exact ⟨by rw [h.cellAt (cap := c) _ (by omega)]; exact (encC_get hx).1, by rw [h.cellAt (cap := c) _ (by omega)]; exact (encC_get hx).2.1, by rw [h.cellAt (cap := c) _ (by omega)]; exact (encC_get hx).2.2, h.frozenAt _, h.frozenAt _, h.frozenAt _⟩
theorem OwnC3.set {w : World} {base g c n : Nat} {es : List (Int × Value × Int)} {S : List Nat} (h : OwnC3 w base (.slice (some ⟨g, 0, none⟩) n c) es S) {k : Nat} (hk : k < es.length) (x : Int × Value × Int) :
    OwnC3 (((w.setCell ⟨g, k * 3, none⟩ (.int .i64 x.1)).setCell ⟨g, k * 3 + 1, none⟩ x.2.1).setCell ⟨g, k * 3 + 2, none⟩ (.int .i64 x.2.2)) base (.slice (some ⟨g, 0, none⟩) n c) (es.set k x) S := by
  obtain ⟨h, hS⟩ := h
  have hn := ownsRow_len h
  subst hn
  have h1 := (h.stored (k * 3) (.int .i64 x.1)).1
  have h2 := (h1.stored (k * 3 + 1) x.2.1).1
  have h3 := (h2.stored (k * 3 + 2) (.int .i64 x.2.2)).1
  rw [encC_set x hk] at h3
  refine ⟨?_, hS⟩
  rw [List.length_set]
  exact h3
/-- a row of clauses that no change below base touches -/
def OwnCl (w : World) (base : Nat) (v : Value) (cs : List Cl) : Prop := ∀ w', (∀ k, base ≤ k → k < w.heap.size → w'.heap[k]? = w.heap[k]?) → ClauseS w' v cs
theorem OwnCl.read {w : World} {base : Nat} {v : Value} {cs : List Cl} (h : OwnCl w base v cs) : ClauseS w v cs := h w fun _ _ _ => rfl
theorem OwnCl.mono {w : World} {base base' : Nat} {v : Value} {cs : List Cl} (h : OwnCl w base v cs) (hb : base' ≤ base) : OwnCl w base' v cs := fun w' h' => h w' fun k h1 h2 => h' k (by omega) h2
theorem OwnCl.keep {w w1 : World} {base : Nat} {v : Value} {cs : List Cl} (h : OwnCl w base v cs) (hb : Below w.heap.size w w1) : OwnCl w1 base v cs := fun w' h' => h w' fun k h1 h2 => (h' k h1 (Nat.lt_of_lt_of_le h2 hb.size)).trans (hb.block k h2)
theorem OwnCl.put {w : World} {base : Nat} {v : Value} {cs : List Cl} (h : OwnCl w base v cs) {p : Addr} (hp : p.block < base) (u : Value) : OwnCl (w.setCell p u) base v cs := fun w' h' => h w' fun k h1 h2 => (h' k h1 (by rw [sizeSet]; exact h2)).trans (Below.heap_setCell _ _ _ _ (by omega))
theorem clause_info : (Tryz.prog.info? 144).map (fun i => (i.zero, i.size, i.bytes)) = some (some (.agg #[.int .i64 0, .slice none 0 0, .int .i64 0]), 3, 40) := by kernel_rfl
def t0C : Int × Value × Int := (0, .slice none 0 0, 0)
theorem enc_zeros (n i : Nat) : ((List.replicate n t0C).flatMap encC)[i]? = if i < n * 3 then (encC t0C)[i % 3]? else none := by
  induction n generalizing i with
  | zero => simp
  | succ n ih =>
    rw [List.replicate_succ, List.flatMap_cons]
    match i with
    | 0 => simp [encC]
    | 1 => simp [encC]; omega
    | 2 => simp [encC]; omega
    | i + 3 =>
      have e1 : (i + 3) % 3 = i % 3 := by omega
      rw [List.getElem?_append_right (by simp [encC]), show i + 3 - (encC t0C).length = i by simp [encC], ih, e1]
      by_cases h : i < n * 3
      · rw [if_pos h, if_pos (by omega)]
      · rw [if_neg h, if_neg (by omega)]
theorem made_clauses (n : Nat) : (madeCells #[Value.int .i64 0, Value.slice none 0 0, Value.int .i64 0] (n * 3)).toList = (List.replicate n t0C).flatMap encC := by
  apply List.ext_getElem?
  intro i
  rw [enc_zeros]
  by_cases h : i < n * 3
  · rw [if_pos h]
    have h3 : i % 3 < 3 := Nat.mod_lt _ (by omega)
    simp [madeCells, h, encC, t0C]
    match hm : i % 3, h3 with
    | 0, _ => simp
    | 1, _ => simp
    | 2, _ => simp
  · rw [if_neg h]
    simp [madeCells]; omega
section
variable {ops : Array Oper} {rest : List Oper} {o : Oper} {a : Act} {Q : Exit → Act → World → Prop}
theorem mk_clauses (w : World) (hg : o.guard = none) (l c : Operand) (hop : o.op = Op.makeSlice 60 l c) (L C : Int) (n : Nat) (hl : a.eval l = .int .i64 L) (hc : a.eval c = .int .i64 C) (hL : L = (n : Int)) (hC : C = (n : Int)) (hn : n ≤ 1099511627)
    (hK : ∀ w', OwnC3 w' w.heap.size (.slice (some ⟨w.heap.size, 0, none⟩) n n) (List.replicate n t0C) [w.heap.size] → Below w.heap.size w w' → wpList Tryz.prog ops Q rest (a.put o.dst (.slice (some ⟨w.heap.size, 0, none⟩) n n)) w') : wpList Tryz.prog ops Q (o :: rest) a w := by
  obtain ⟨i0, hi, hz0, hz1, hz2⟩ := info_parts clause_info
  refine wpList_make_full w hg l c 60 hop w.heap.size 144 i0 (.agg #[.int .i64 0, .slice none 0 0, .int .i64 0]) 3 Tryz.underlying60 hi hz0 hz1 .i64 .i64 L C n hl hc hL hC (by rw [hz2]; omega) (by unfold maxLen; omega) (Nat.le_refl _) ?_
  intro w' ho hgr
  rw [show (Value.agg #[Value.int IntKind.i64 0, Value.slice none 0 0, Value.int IntKind.i64 0]).cells = #[Value.int .i64 0, Value.slice none 0 0, Value.int .i64 0] from rfl, made_clauses] at ho
  exact hK w' ⟨by rw [List.length_replicate]; exact ho, by simp [Value.ownBlock]⟩ (below_grown hgr)
end
set_option maxHeartbeats 4000000 in
theorem toClauseS_any (v : Value) (es : List Cl) (w : World) (h : ClauseS w v es) (hl : szCl es ≤ 1048576) :
    Calls Tryz.prog 90 #[v] w fun e w' => ∃ g, e = .returned (.slice (some ⟨g, 0, none⟩) es.length es.length) ∧ OwnCl w' w.heap.size (.slice (some ⟨g, 0, none⟩) es.length es.length) es ∧ Below w.heap.size w w' := by
  obtain ⟨A, c, rfl, hlc, hm, hA⟩ := h
  unfold maxLen at hm
  have HA := Lib.hid hA
  clear hA
  have hl1 : es.length ≤ 1048576 := by unfold szCl at hl; omega
  have Hl := Lib.hid hl
  clear hl
  go_enter Tryz.func90, Tryz.ntmps90
  go_wp2_with (at_make; refine mk_clauses _ rfl _ _ rfl _ _ es.length rfl rfl rfl rfl (by omega) ?_; intro w1 ho1 hb1)
  go_loopw [4] (fun i wr => ∃ (k : Nat) (us : List (Int × Value × Int)), k ≤ es.length ∧ i = .int .i64 k ∧ us.length = es.length ∧ OwnC3 wr w.heap.size (.slice (some ⟨w.heap.size, 0, none⟩) es.length es.length) us [w.heap.size] ∧ (∀ j x, j < k → es[j]? = some x → ∃ u T, us[j]? = some (x.state, u, x.next) ∧ OwnI wr (w.heap.size + 1) u x.inbox T) ∧ Below w.heap.size w wr) (fun i _ => es.length - (intOf i).toNat)
  case atStart => exact ⟨0, _, Nat.zero_le _, rfl, by simp, ho1, fun j x hj => absurd hj (by omega), hb1⟩
  case round =>
    obtain ⟨k, us, hk, rfl, hul, ho, hold, hb⟩ := hrel
    clear ho1 hb1
    have Hold := Lib.hid hold
    by_cases hlt : k < es.length
    · obtain ⟨x, hx⟩ := getx es k hlt
      obtain ⟨b, off, u, rfl, hc1, hc2, hc3, hu⟩ := HA.out k x hx
      have k1 := bc hb hc1
      have k2 := bc hb hc2
      have k3 := bc hb hc3
      have Hu := Lib.hid (hu.keep hb)
      obtain ⟨U1, y1, rfl, _⟩ := hu
      have Ho := Lib.hid ho
      have Hb := Lib.hid hb
      have Hx := Lib.hid hx
      have Hul := Lib.hid hul
      have Hxl : Hid (x.inbox.length ≤ 17592186044416) := by
        have h1 := szC_snoc hx
        have h2 := szC_le es (k + 1)
        have h3 := Hl.out
        unfold szCl at h3
        exact show _ ≤ _ by omega
      have hgr : w.heap.size + 1 ≤ wr.heap.size := by have := (lawC3.range ho w.heap.size (by simp)).2; omega
      clear hx hc1 hc2 hc3 ho hb hold hul
      go_wp2_with fail
      refine (toClause_any x.state _ x.next x.inbox _ Hu.out Hxl.out).mono ?_
      rintro e w2 ⟨v2, rfl, hr2, hb2⟩
      obtain ⟨D1, d1, hu1, _⟩ := id hr2.ints
      subst hu1
      have ho2 := lawC3.keep Ho.out hb2
      obtain ⟨y, hy⟩ := getx us k (by have := Hul.out; omega)
      obtain ⟨c1, c2, c3, f1, f2, f3⟩ := ho2.cells hy
      have ho3 := ho2.set (k := k) (by have := Hul.out; omega) (x.state, .slice D1 x.inbox.length d1, x.next)
      have Ho3 := Lib.hid ho3
      have Hb3 := Lib.hid ((((Hb.out.trans (hb2.mono Hb.out.size)).setCell (p := ⟨w.heap.size, k * 3, none⟩) (Nat.le_refl _) (.int .i64 x.state)).setCell (p := ⟨w.heap.size, k * 3 + 1, none⟩) (Nat.le_refl _) (.slice D1 x.inbox.length d1)).setCell (p := ⟨w.heap.size, k * 3 + 2, none⟩) (Nat.le_refl _) (.int .i64 x.next))
      have Hnew : Hid (∀ j z, j < k + 1 → es[j]? = some z → ∃ u T, (us.set k (x.state, .slice D1 x.inbox.length d1, x.next))[j]? = some (z.state, u, z.next) ∧ OwnI (((w2.setCell ⟨w.heap.size, k * 3, none⟩ (.int .i64 x.state)).setCell ⟨w.heap.size, k * 3 + 1, none⟩ (.slice D1 x.inbox.length d1)).setCell ⟨w.heap.size, k * 3 + 2, none⟩ (.int .i64 x.next)) (w.heap.size + 1) u z.inbox T) := fun j z hj hz => by
        by_cases hjk : j = k
        · subst hjk
          have hzx := Hx.out
          rw [hz] at hzx
          cases hzx
          have q0 : OwnI w2 (w.heap.size + 1) (.slice D1 x.inbox.length d1) x.inbox _ := lawI.mono ⟨hr2, rfl⟩ hgr
          have q3 := RowLaw.put lawI (RowLaw.put lawI (RowLaw.put lawI q0 (p := ⟨w.heap.size, j * 3, none⟩) (Nat.lt_succ_self _) (.int .i64 x.state)) (p := ⟨w.heap.size, j * 3 + 1, none⟩) (Nat.lt_succ_self _) (.slice D1 x.inbox.length d1)) (p := ⟨w.heap.size, j * 3 + 2, none⟩) (Nat.lt_succ_self _) (.int .i64 x.next)
          exact ⟨_, _, by rw [List.getElem?_set_self (by have := Hul.out; omega)], q3⟩
        · obtain ⟨u, T, g1, g2⟩ := Hold.out j z (by omega) hz
          have q3 := RowLaw.put lawI (RowLaw.put lawI (RowLaw.put lawI (lawI.keep g2 hb2) (p := ⟨w.heap.size, k * 3, none⟩) (Nat.lt_succ_self _) (.int .i64 x.state)) (p := ⟨w.heap.size, k * 3 + 1, none⟩) (Nat.lt_succ_self _) (.slice D1 x.inbox.length d1)) (p := ⟨w.heap.size, k * 3 + 2, none⟩) (Nat.lt_succ_self _) (.int .i64 x.next)
          exact ⟨u, T, by rw [List.getElem?_set_ne (Ne.symm hjk)]; exact g1, q3⟩
      clear ho2 hy ho3 hb2 hr2
      go_wp2
      go_roundw
      case rel => exact ⟨k + 1, _, by omega, by simp, by rw [List.length_set]; exact Hul.out, Ho3.out, Hnew.out, Hb3.out⟩
      case measure => simp [intOf]; omega
    · have hfin : Hid (OwnCl wr w.heap.size (.slice (some ⟨w.heap.size, 0, none⟩) es.length es.length) es) := fun w' hw' => by
        have hO : OwnC3 w' w.heap.size (.slice (some ⟨w.heap.size, 0, none⟩) es.length es.length) us [w.heap.size] := lawC3.stable ho (fun j hj => by have := lawC3.range ho j hj; exact hw' j this.1 this.2)
        refine ⟨_, es.length, rfl, Nat.le_refl _, by unfold maxLen; omega, fun j x hx => ?_⟩
        have := lt_of_get hx
        obtain ⟨u, T, g1, g2⟩ := Hold.out j x (by omega) hx
        obtain ⟨c1, c2, c3, _⟩ := hO.cells g1
        refine ⟨w.heap.size, 0, u, rfl, by rw [Nat.zero_add]; exact c1, by rw [Nat.zero_add]; exact c2, by rw [Nat.zero_add]; exact c3, ?_⟩
        exact (lawI.stable g2 (fun j hj => by have := lawI.range g2 j hj; exact hw' j (by omega) this.2)).1.ints
      have Hb := Lib.hid hb
      clear ho hb hold hul
      go_wp2
      go_ret
      exact ⟨_, rfl, hfin.out, Hb.out⟩
end Go.Proofs.YtlfehdikgbgloaaGreat
namespace Go.Proofs.YtlfehdikgbgloaaGreat
open Go.RowKit
/-! equal clauses are found equal -/
set_option maxHeartbeats 2000000 in
theorem eqClause_same (s : Int) (u u' : Value) (nx : Int) (xs : List Int) (w : World) (h : IntS w u xs) (h' : IntS w u' xs) :
    Calls Tryz.prog 158 #[.agg #[.int .i64 s, u, .int .i64 nx], .agg #[.int .i64 s, u', .int .i64 nx]] w fun e w' => e = .returned (.bool true) ∧ Below w.heap.size w w' := by
  obtain ⟨A1, z1, hv1, _⟩ := id h
  obtain ⟨C1, y1, hu1, _⟩ := id h'
  obtain ⟨w0, hw0⟩ : ∃ w0, w0 = (w.alloc (.cells #[.int .i64 s, u, .int .i64 nx] 144)).alloc (.cells #[.int .i64 s, u', .int .i64 nx] 144) := ⟨_, rfl⟩
  have hb0 : Below w.heap.size w w0 := by rw [hw0]; exact ((Below.refl _ _).alloc (Nat.le_refl _) _).alloc (by simp) _
  have p2 : ∀ W, Since w0 W → W.cell? ⟨w.heap.size, 2, none⟩ = some (.int .i64 nx) := fun W hW => bc hW (by rw [hw0]; simp)
  have q2 : ∀ W, Since w0 W → W.cell? ⟨w.heap.size + 1, 2, none⟩ = some (.int .i64 nx) := fun W hW => bc hW (by rw [hw0]; simp)
  have H := Lib.hid (h.keep hb0)
  have H' := Lib.hid (h'.keep hb0)
  have Hw0 := Lib.hid hw0
  have Hb0 := Lib.hid hb0
  clear h h' hb0 hw0
  subst hv1 hu1
  go_enter Tryz.func158, Tryz.ntmps158
  go_wp2_with fail
  rw [← Hw0.out]
  refine (eqIntS_b _ _ xs xs _ (by exact H.out) (by exact H'.out)).mono ?_
  rw [show eqIs xs xs = true from decide_eq_true rfl]
  rintro e w1 ⟨rfl, hb1⟩
  have hs1 : Since w0 w1 := hb1
  clear hb1
  go_wp2
  go_ret
  exact ⟨rfl, Hb0.out.trans (hs1.mono Hb0.out.size)⟩
set_option maxHeartbeats 2000000 in
theorem eqClauseS_same (v u : Value) (xs : List Cl) (w : World) (h : ClauseS w v xs) (h' : ClauseS w u xs) :
    Calls Tryz.prog 95 #[v, u] w fun e w' => e = .returned (.bool true) ∧ Below w.heap.size w w' := by
  obtain ⟨A, c, rfl, hlc, hm, hA⟩ := h
  obtain ⟨B, d, rfl, hld, hmd, hB⟩ := h'
  unfold maxLen at hm hmd
  have HA := Lib.hid hA
  have HB := Lib.hid hB
  clear hA hB
  go_enter Tryz.func95, Tryz.ntmps95
  go_wp2
  go_loopw [5] (fun i wr => ∃ k : Nat, k ≤ xs.length ∧ i = .int .i64 k ∧ Below w.heap.size w wr) (fun i _ => xs.length - (intOf i).toNat)
  case atStart => exact ⟨0, Nat.zero_le _, rfl, Below.refl _ _⟩
  case round =>
    obtain ⟨k, hk, rfl, hbl⟩ := hrel
    have Hbl := Lib.hid hbl
    clear hbl
    by_cases hlt : k < xs.length
    · obtain ⟨x, hx⟩ := getx xs k hlt
      obtain ⟨b, off, u1, rfl, hc1, hc2, hc3, hr1⟩ := HA.out k x hx
      obtain ⟨b', off', u2, rfl, hd1, hd2, hd3, hr2⟩ := HB.out k x hx
      have k1 := bc Hbl.out hc1
      have k2 := bc Hbl.out hc2
      have k3 := bc Hbl.out hc3
      have k4 := bc Hbl.out hd1
      have k5 := bc Hbl.out hd2
      have k6 := bc Hbl.out hd3
      have Hr1 := Lib.hid (hr1.keep Hbl.out)
      have Hr2 := Lib.hid (hr2.keep Hbl.out)
      obtain ⟨A1, z1, rfl, _⟩ := hr1
      obtain ⟨A2, z2, rfl, _⟩ := hr2
      clear hc1 hc2 hc3 hd1 hd2 hd3 hx
      go_wp2
      go_region_held3 (fun w' => w'.cell? ⟨b, off + k * 3, none⟩ = some (.int .i64 x.state) ∧ w'.cell? ⟨b, off + k * 3 + 1, none⟩ = some (.slice A1 x.inbox.length z1) ∧ w'.cell? ⟨b, off + k * 3 + 2, none⟩ = some (.int .i64 x.next) ∧ w'.cell? ⟨b', off' + k * 3, none⟩ = some (.int .i64 x.state) ∧ w'.cell? ⟨b', off' + k * 3 + 1, none⟩ = some (.slice A2 x.inbox.length z2) ∧ w'.cell? ⟨b', off' + k * 3 + 2, none⟩ = some (.int .i64 x.next)) (first | exact ⟨k1, k2, k3, k4, k5, k6⟩ | exact ⟨bc hb1 k1, bc hb1 k2, bc hb1 k3, bc hb1 k4, bc hb1 k5, bc hb1 k6⟩)
        (first | (go_at_call 158; refine (eqClause_same _ _ _ _ x.inbox _ (by exact Hr1.out) (by exact Hr2.out)).mono ?_; rintro e w1 ⟨rfl, hb1⟩))
      have Hb2 := Lib.hid (Hbl.out.drew.trans (hb1.mono (show w.heap.size ≤ wr.heap.size from Hbl.out.size)))
      clear hb1
      go_wp2
      go_roundw
      case rel => exact ⟨k + 1, by omega, by go_num, Hb2.out⟩
      case measure => simp [intOf]; omega
    · go_wp2
      go_ret
      exact ⟨rfl, Hbl.out⟩
end Go.Proofs.YtlfehdikgbgloaaGreat
