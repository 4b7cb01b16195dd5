/- Parts of the proof: walks of functions and plain laws. -/
import Derived.Test.YtomnaabadohecaaGreatP6
import Derived.Test.YtomnaabadohecaaGreatP15
import Derived.Test.YtomnaabadohecaaGreatP8
namespace Go.Proofs.YtomnaabadohecaaGreat
open Go.RowKit
def OwnMac (w : World) (B E : Nat) (a b c d : Value) (x : Mac) : Prop := ∃ (E1 E2 E3 : Nat) (S1 S2 S4 : List Nat), B ≤ E1 ∧ E1 ≤ E2 ∧ E2 ≤ E3 ∧ E3 ≤ E ∧ OwnII w B a x.start S1 ∧ (∀ k ∈ S1, k < E1) ∧ OwnII w E1 b x.send S2 ∧ (∀ k ∈ S2, k < E2) ∧ OwnCS w E2 E3 c x.clauses ∧ OwnI w E3 d x.output S4 ∧ ∀ k ∈ S4, k < E
set_option maxHeartbeats 8000000 in
theorem toMachine_own (a b c d : Value) (x : Mac) (w : World) (h : MacIn w a b c d x) (hl : szMac x ≤ 1048576) : Calls Tryz.prog 13 #[.agg #[.int .i64 x.degree, .int .i64 x.states, .int .i64 x.messages, a, b, c, d]] w fun e w' => ∃ a b c d, e = .returned (.agg #[.int .i64 x.degree, .int .i64 x.states, .int .i64 x.messages, a, b, c, d]) ∧ OwnMac w' w.heap.size w'.heap.size a b c d x ∧ Below w.heap.size w w' := by
  unfold szMac at hl
  have hl1 : szII x.start ≤ 1048576 := by omega
  have hl2 : szII x.send ≤ 1048576 := by omega
  have hl3 : szCl x.clauses ≤ 1048576 := by omega
  have hl4 : x.output.length ≤ 17592186044416 := by omega
  obtain ⟨A1, z1, hv1, _⟩ := id h.1
  obtain ⟨A2, z2, hv2, _⟩ := id h.2.1
  obtain ⟨A3, z3, hv3, _⟩ := id h.2.2.1
  obtain ⟨A4, z4, hv4, _⟩ := id h.2.2.2
  subst hv1 hv2 hv3 hv4
  obtain ⟨wa, hwa⟩ : ∃ wa, wa = ((w.alloc (.cells #[.int .i64 x.degree, .int .i64 x.states, .int .i64 x.messages, .slice A1 x.start.length z1, .slice A2 x.send.length z2, .slice A3 x.clauses.length z3, .slice A4 x.output.length z4] 26)).alloc (.cells #[.int .i64 0, .int .i64 0, .int .i64 0, .slice none 0 0, .slice none 0 0, .slice none 0 0, .slice none 0 0] 39)).alloc (.cells #[.int .i64 x.degree, .int .i64 x.states, .int .i64 x.messages, .slice none 0 0, .slice none 0 0, .slice none 0 0, .slice none 0 0] 39) := ⟨_, rfl⟩
  have hba : Below w.heap.size w wa := by rw [hwa]; exact below3 _ _ _ _
  have hsa : wa.heap.size = w.heap.size + 3 := by rw [hwa]; simp
  have b1 : BoxA wa w.heap.size #[.int .i64 x.degree, .int .i64 x.states, .int .i64 x.messages, .slice A1 x.start.length z1, .slice A2 x.send.length z2, .slice A3 x.clauses.length z3, .slice A4 x.output.length z4] := by rw [hwa]; exact ((BoxA.new _ _ _).alloc _).alloc _
  have b2 : BoxA wa (w.heap.size + 1) #[.int .i64 0, .int .i64 0, .int .i64 0, .slice none 0 0, .slice none 0 0, .slice none 0 0, .slice none 0 0] := by
    rw [hwa]
    have := (BoxA.new (w.alloc (.cells #[.int .i64 x.degree, .int .i64 x.states, .int .i64 x.messages, .slice A1 x.start.length z1, .slice A2 x.send.length z2, .slice A3 x.clauses.length z3, .slice A4 x.output.length z4] 26)) #[.int .i64 0, .int .i64 0, .int .i64 0, .slice none 0 0, .slice none 0 0, .slice none 0 0, .slice none 0 0] 39).alloc (.cells #[.int .i64 x.degree, .int .i64 x.states, .int .i64 x.messages, .slice none 0 0, .slice none 0 0, .slice none 0 0, .slice none 0 0] 39)
    simpa using this
  have b3 : BoxA wa (w.heap.size + 2) #[.int .i64 x.degree, .int .i64 x.states, .int .i64 x.messages, .slice none 0 0, .slice none 0 0, .slice none 0 0, .slice none 0 0] := by
    rw [hwa]
    have := BoxA.new ((w.alloc (.cells #[.int .i64 x.degree, .int .i64 x.states, .int .i64 x.messages, .slice A1 x.start.length z1, .slice A2 x.send.length z2, .slice A3 x.clauses.length z3, .slice A4 x.output.length z4] 26)).alloc (.cells #[.int .i64 0, .int .i64 0, .int .i64 0, .slice none 0 0, .slice none 0 0, .slice none 0 0, .slice none 0 0] 39)) #[.int .i64 x.degree, .int .i64 x.states, .int .i64 x.messages, .slice none 0 0, .slice none 0 0, .slice none 0 0, .slice none 0 0] 39
    simpa using this
  have H0 := Lib.hid h
  have Ha := Lib.hid hwa
  have X0 := Lib.hid b1
  have Y0 := Lib.hid b2
  have Z0 := Lib.hid b3
  have HB0 := Lib.hid hba
  clear h hba hwa b1 b2 b3 hl
  go_enter Tryz.func13, Tryz.ntmps13
  go_wp2_with fail
  rw [← Ha.out]
  refine (toIntSS_any _ x.start _ (by exact (H0.out.keep HB0.out).1) hl1).mono ?_
  rintro e w1 ⟨g1, S1, rfl, ko1, hb1⟩
  have hz1 := hb1.size
  have hsz1 : wa.heap.size ≤ wa.heap.size := Nat.le_refl _
  obtain ⟨W1, hW1⟩ : ∃ W1, W1 = w1.setCell ⟨w.heap.size + 2, 3, none⟩ (.slice (some ⟨g1, 0, none⟩) x.start.length x.start.length) := ⟨_, rfl⟩
  obtain ⟨q1, f1⟩ := (Z0.out.below hb1 (by omega)).cell 3 _ rfl
  have b1 : BoxA W1 w.heap.size #[.int .i64 x.degree, .int .i64 x.states, .int .i64 x.messages, .slice A1 x.start.length z1, .slice A2 x.send.length z2, .slice A3 x.clauses.length z3, .slice A4 x.output.length z4] := by rw [hW1]; exact (X0.out.below hb1 (by omega)).set (by simp)
  have b2 : BoxA W1 (w.heap.size + 1) #[.int .i64 0, .int .i64 0, .int .i64 0, .slice none 0 0, .slice none 0 0, .slice none 0 0, .slice none 0 0] := by rw [hW1]; exact (Y0.out.below hb1 (by omega)).set (by simp)
  have b3 : BoxA W1 (w.heap.size + 2) #[.int .i64 x.degree, .int .i64 x.states, .int .i64 x.messages, .slice (some ⟨g1, 0, none⟩) x.start.length x.start.length, .slice none 0 0, .slice none 0 0, .slice none 0 0] := by rw [hW1]; obtain ⟨r, hr⟩ := Z0.out.below hb1 (by omega); exact ⟨r, by simp [World.setCell, Array.getElem?_modify, hr]⟩
  have hB1 : Below w.heap.size w W1 := by rw [hW1]; exact (HB0.out.trans (hb1.mono (by omega))).setCell (by simp) _
  have hsW1 : wa.heap.size ≤ W1.heap.size := by rw [hW1, sizeSet]; omega
  have k1 : OwnII W1 wa.heap.size (.slice (some ⟨g1, 0, none⟩) x.start.length x.start.length) x.start S1 := by rw [hW1]; exact (RowLaw.put lawII ko1 (p := ⟨w.heap.size + 2, 3, none⟩) (by show w.heap.size + 2 < _; omega) _)
  have U1 : Hid (∀ k ∈ S1, k < W1.heap.size) := fun k hk => (lawII.range k1 k hk).2
  have K1_1 := Lib.hid k1
  clear k1
  have hle1 : wa.heap.size ≤ W1.heap.size := by rw [hW1, sizeSet]; exact hb1.size
  have HB1 := Lib.hid hB1
  have HW1 := Lib.hid hW1
  have X1 := Lib.hid b1
  have p1 := (b1.cell 4 _ rfl).1
  rw [hW1] at p1
  have Y1 := Lib.hid b2
  have Z1 := Lib.hid b3
  clear b1
  clear b2 b3 hB1 hb1 ko1
  clear hW1
  go_wp2_with fail
  clear p1 q1 f1
  rw [← HW1.out]
  refine (toIntSS_any _ x.send _ (by exact (H0.out.keep HB1.out).2.1) hl2).mono ?_
  rintro e w2 ⟨g2, S2, rfl, ko2, hb2⟩
  have hz2 := hb2.size
  have hsz2 : wa.heap.size ≤ W1.heap.size := hsW1
  obtain ⟨W2, hW2⟩ : ∃ W2, W2 = w2.setCell ⟨w.heap.size + 2, 4, none⟩ (.slice (some ⟨g2, 0, none⟩) x.send.length x.send.length) := ⟨_, rfl⟩
  obtain ⟨q2, f2⟩ := (Z1.out.below hb2 (by omega)).cell 4 _ rfl
  have b1 : BoxA W2 w.heap.size #[.int .i64 x.degree, .int .i64 x.states, .int .i64 x.messages, .slice A1 x.start.length z1, .slice A2 x.send.length z2, .slice A3 x.clauses.length z3, .slice A4 x.output.length z4] := by rw [hW2]; exact (X1.out.below hb2 (by omega)).set (by simp)
  have b2 : BoxA W2 (w.heap.size + 1) #[.int .i64 0, .int .i64 0, .int .i64 0, .slice none 0 0, .slice none 0 0, .slice none 0 0, .slice none 0 0] := by rw [hW2]; exact (Y1.out.below hb2 (by omega)).set (by simp)
  have b3 : BoxA W2 (w.heap.size + 2) #[.int .i64 x.degree, .int .i64 x.states, .int .i64 x.messages, .slice (some ⟨g1, 0, none⟩) x.start.length x.start.length, .slice (some ⟨g2, 0, none⟩) x.send.length x.send.length, .slice none 0 0, .slice none 0 0] := by rw [hW2]; obtain ⟨r, hr⟩ := Z1.out.below hb2 (by omega); exact ⟨r, by simp [World.setCell, Array.getElem?_modify, hr]⟩
  have hB2 : Below w.heap.size w W2 := by rw [hW2]; exact (HB1.out.trans (hb2.mono (by omega))).setCell (by simp) _
  have hsW2 : wa.heap.size ≤ W2.heap.size := by rw [hW2, sizeSet]; omega
  have k1 : OwnII W2 wa.heap.size (.slice (some ⟨g1, 0, none⟩) x.start.length x.start.length) x.start S1 := by rw [hW2]; exact (RowLaw.put lawII (lawII.keep K1_1.out hb2) (p := ⟨w.heap.size + 2, 4, none⟩) (by show w.heap.size + 2 < _; omega) _)
  have K1_2 := Lib.hid k1
  have k2 : OwnII W2 W1.heap.size (.slice (some ⟨g2, 0, none⟩) x.send.length x.send.length) x.send S2 := by rw [hW2]; exact (RowLaw.put lawII ko2 (p := ⟨w.heap.size + 2, 4, none⟩) (by show w.heap.size + 2 < _; omega) _)
  have U2 : Hid (∀ k ∈ S2, k < W2.heap.size) := fun k hk => (lawII.range k2 k hk).2
  have K2_2 := Lib.hid k2
  clear k1 k2
  have hle2 : W1.heap.size ≤ W2.heap.size := by rw [hW2, sizeSet]; exact hb2.size
  have HB2 := Lib.hid hB2
  have HW2 := Lib.hid hW2
  have X2 := Lib.hid b1
  have p2 := (b1.cell 5 _ rfl).1
  rw [hW2] at p2
  have Y2 := Lib.hid b2
  have Z2 := Lib.hid b3
  clear b1
  clear b2 b3 hB2 hb2 ko2
  clear hW2
  go_wp2_with fail
  clear p2 q2 f2
  rw [← HW2.out]
  refine (toClauseS_own _ x.clauses _ (by exact (H0.out.keep HB2.out).2.2.1) hl3).mono ?_
  rintro e w3 ⟨g3, rfl, ko3, hb3⟩
  have hz3 := hb3.size
  have hsz3 : wa.heap.size ≤ W2.heap.size := hsW2
  obtain ⟨W3, hW3⟩ : ∃ W3, W3 = w3.setCell ⟨w.heap.size + 2, 5, none⟩ (.slice (some ⟨g3, 0, none⟩) x.clauses.length x.clauses.length) := ⟨_, rfl⟩
  obtain ⟨q3, f3⟩ := (Z2.out.below hb3 (by omega)).cell 5 _ rfl
  have b1 : BoxA W3 w.heap.size #[.int .i64 x.degree, .int .i64 x.states, .int .i64 x.messages, .slice A1 x.start.length z1, .slice A2 x.send.length z2, .slice A3 x.clauses.length z3, .slice A4 x.output.length z4] := by rw [hW3]; exact (X2.out.below hb3 (by omega)).set (by simp)
  have b2 : BoxA W3 (w.heap.size + 1) #[.int .i64 0, .int .i64 0, .int .i64 0, .slice none 0 0, .slice none 0 0, .slice none 0 0, .slice none 0 0] := by rw [hW3]; exact (Y2.out.below hb3 (by omega)).set (by simp)
  have b3 : BoxA W3 (w.heap.size + 2) #[.int .i64 x.degree, .int .i64 x.states, .int .i64 x.messages, .slice (some ⟨g1, 0, none⟩) x.start.length x.start.length, .slice (some ⟨g2, 0, none⟩) x.send.length x.send.length, .slice (some ⟨g3, 0, none⟩) x.clauses.length x.clauses.length, .slice none 0 0] := by rw [hW3]; obtain ⟨r, hr⟩ := Z2.out.below hb3 (by omega); exact ⟨r, by simp [World.setCell, Array.getElem?_modify, hr]⟩
  have hB3 : Below w.heap.size w W3 := by rw [hW3]; exact (HB2.out.trans (hb3.mono (by omega))).setCell (by simp) _
  have hsW3 : wa.heap.size ≤ W3.heap.size := by rw [hW3, sizeSet]; omega
  have k1 : OwnII W3 wa.heap.size (.slice (some ⟨g1, 0, none⟩) x.start.length x.start.length) x.start S1 := by rw [hW3]; exact (RowLaw.put lawII (lawII.keep K1_2.out hb3) (p := ⟨w.heap.size + 2, 5, none⟩) (by show w.heap.size + 2 < _; omega) _)
  have K1_3 := Lib.hid k1
  have k2 : OwnII W3 W1.heap.size (.slice (some ⟨g2, 0, none⟩) x.send.length x.send.length) x.send S2 := by rw [hW3]; exact (RowLaw.put lawII (lawII.keep K2_2.out hb3) (p := ⟨w.heap.size + 2, 5, none⟩) (by show w.heap.size + 2 < _; omega) _)
  have K2_3 := Lib.hid k2
  have k3 : OwnCS W3 W2.heap.size w3.heap.size (.slice (some ⟨g3, 0, none⟩) x.clauses.length x.clauses.length) x.clauses := by rw [hW3]; exact (OwnCS.put ko3 (p := ⟨w.heap.size + 2, 5, none⟩) (by show w.heap.size + 2 < _; omega) _)
  have K3_3 := Lib.hid k3
  clear k1 k2 k3
  have hle3 : W2.heap.size ≤ W3.heap.size := by rw [hW3, sizeSet]; exact hb3.size
  have heq3 : w3.heap.size = W3.heap.size := by rw [hW3, sizeSet]
  have HB3 := Lib.hid hB3
  have HW3 := Lib.hid hW3
  have X3 := Lib.hid b1
  have p3 := (b1.cell 6 _ rfl).1
  rw [hW3] at p3
  have Y3 := Lib.hid b2
  have Z3 := Lib.hid b3
  clear b1
  clear b2 b3 hB3 hb3 ko3
  clear hW3
  go_wp2_with fail
  clear p3 q3 f3
  rw [← HW3.out]
  refine (toIntS_any _ x.output _ (by exact (H0.out.keep HB3.out).2.2.2) hl4).mono ?_
  rintro e w4 ⟨v4, rfl, ho4, hb4⟩
  obtain ⟨D4, d4, hu4, _⟩ := id ho4.ints
  subst hu4
  obtain ⟨S4, hS4⟩ : ∃ S, S = (.slice D4 x.output.length d4 : Value).ownBlock.toList := ⟨_, rfl⟩
  have ko4 : OwnI w4 W3.heap.size (.slice D4 x.output.length d4) x.output S4 := ⟨ho4, hS4⟩
  clear hS4
  have hz4 := hb4.size
  have hsz4 : wa.heap.size ≤ W3.heap.size := hsW3
  obtain ⟨W4, hW4⟩ : ∃ W4, W4 = w4.setCell ⟨w.heap.size + 2, 6, none⟩ (.slice D4 x.output.length d4) := ⟨_, rfl⟩
  obtain ⟨q4, f4⟩ := (Z3.out.below hb4 (by omega)).cell 6 _ rfl
  have b2 : BoxA W4 (w.heap.size + 1) #[.int .i64 0, .int .i64 0, .int .i64 0, .slice none 0 0, .slice none 0 0, .slice none 0 0, .slice none 0 0] := by rw [hW4]; exact (Y3.out.below hb4 (by omega)).set (by simp)
  have b3 : BoxA W4 (w.heap.size + 2) #[.int .i64 x.degree, .int .i64 x.states, .int .i64 x.messages, .slice (some ⟨g1, 0, none⟩) x.start.length x.start.length, .slice (some ⟨g2, 0, none⟩) x.send.length x.send.length, .slice (some ⟨g3, 0, none⟩) x.clauses.length x.clauses.length, .slice D4 x.output.length d4] := by rw [hW4]; obtain ⟨r, hr⟩ := Z3.out.below hb4 (by omega); exact ⟨r, by simp [World.setCell, Array.getElem?_modify, hr]⟩
  have hB4 : Below w.heap.size w W4 := by rw [hW4]; exact (HB3.out.trans (hb4.mono (by omega))).setCell (by simp) _
  have hsW4 : wa.heap.size ≤ W4.heap.size := by rw [hW4, sizeSet]; omega
  have k1 : OwnII W4 wa.heap.size (.slice (some ⟨g1, 0, none⟩) x.start.length x.start.length) x.start S1 := by rw [hW4]; exact (RowLaw.put lawII (lawII.keep K1_3.out hb4) (p := ⟨w.heap.size + 2, 6, none⟩) (by show w.heap.size + 2 < _; omega) _)
  have K1_4 := Lib.hid k1
  have k2 : OwnII W4 W1.heap.size (.slice (some ⟨g2, 0, none⟩) x.send.length x.send.length) x.send S2 := by rw [hW4]; exact (RowLaw.put lawII (lawII.keep K2_3.out hb4) (p := ⟨w.heap.size + 2, 6, none⟩) (by show w.heap.size + 2 < _; omega) _)
  have K2_4 := Lib.hid k2
  have k3 : OwnCS W4 W2.heap.size w3.heap.size (.slice (some ⟨g3, 0, none⟩) x.clauses.length x.clauses.length) x.clauses := by rw [hW4]; exact (OwnCS.put (K3_3.out.keep hb4) (p := ⟨w.heap.size + 2, 6, none⟩) (by show w.heap.size + 2 < _; omega) _)
  have K3_4 := Lib.hid k3
  have k4 : OwnI W4 W3.heap.size (.slice D4 x.output.length d4) x.output S4 := by rw [hW4]; exact (RowLaw.put lawI ko4 (p := ⟨w.heap.size + 2, 6, none⟩) (by show w.heap.size + 2 < _; omega) _)
  have U4 : Hid (∀ k ∈ S4, k < W4.heap.size) := fun k hk => (lawI.range k4 k hk).2
  have K4_4 := Lib.hid k4
  clear k1 k2 k3 k4
  have hle4 : W3.heap.size ≤ W4.heap.size := by rw [hW4, sizeSet]; exact hb4.size
  have HB4 := Lib.hid hB4
  have HW4 := Lib.hid hW4
  have Y4 := Lib.hid b2
  have Z4 := Lib.hid b3
  have hfin : Hid (∀ y0 y1 y2 y3 y4 y5 y6, OwnMac (((((((W4.setCell ⟨w.heap.size + 1, 0, none⟩ y0).setCell ⟨w.heap.size + 1, 1, none⟩ y1).setCell ⟨w.heap.size + 1, 2, none⟩ y2).setCell ⟨w.heap.size + 1, 3, none⟩ y3).setCell ⟨w.heap.size + 1, 4, none⟩ y4).setCell ⟨w.heap.size + 1, 5, none⟩ y5).setCell ⟨w.heap.size + 1, 6, none⟩ y6) w.heap.size (((((((W4.setCell ⟨w.heap.size + 1, 0, none⟩ y0).setCell ⟨w.heap.size + 1, 1, none⟩ y1).setCell ⟨w.heap.size + 1, 2, none⟩ y2).setCell ⟨w.heap.size + 1, 3, none⟩ y3).setCell ⟨w.heap.size + 1, 4, none⟩ y4).setCell ⟨w.heap.size + 1, 5, none⟩ y5).setCell ⟨w.heap.size + 1, 6, none⟩ y6).heap.size (.slice (some ⟨g1, 0, none⟩) x.start.length x.start.length) (.slice (some ⟨g2, 0, none⟩) x.send.length x.send.length) (.slice (some ⟨g3, 0, none⟩) x.clauses.length x.clauses.length) (.slice D4 x.output.length d4) x ∧ Below w.heap.size w (((((((W4.setCell ⟨w.heap.size + 1, 0, none⟩ y0).setCell ⟨w.heap.size + 1, 1, none⟩ y1).setCell ⟨w.heap.size + 1, 2, none⟩ y2).setCell ⟨w.heap.size + 1, 3, none⟩ y3).setCell ⟨w.heap.size + 1, 4, none⟩ y4).setCell ⟨w.heap.size + 1, 5, none⟩ y5).setCell ⟨w.heap.size + 1, 6, none⟩ y6)) := fun y0 y1 y2 y3 y4 y5 y6 => by
    have r1 := (RowLaw.put lawII (RowLaw.put lawII (RowLaw.put lawII (RowLaw.put lawII (RowLaw.put lawII (RowLaw.put lawII (RowLaw.put lawII K1_4.out (p := ⟨w.heap.size + 1, 0, none⟩) (by show w.heap.size + 1 < _; omega) y0) (p := ⟨w.heap.size + 1, 1, none⟩) (by show w.heap.size + 1 < _; omega) y1) (p := ⟨w.heap.size + 1, 2, none⟩) (by show w.heap.size + 1 < _; omega) y2) (p := ⟨w.heap.size + 1, 3, none⟩) (by show w.heap.size + 1 < _; omega) y3) (p := ⟨w.heap.size + 1, 4, none⟩) (by show w.heap.size + 1 < _; omega) y4) (p := ⟨w.heap.size + 1, 5, none⟩) (by show w.heap.size + 1 < _; omega) y5) (p := ⟨w.heap.size + 1, 6, none⟩) (by show w.heap.size + 1 < _; omega) y6)
    have r2 := (RowLaw.put lawII (RowLaw.put lawII (RowLaw.put lawII (RowLaw.put lawII (RowLaw.put lawII (RowLaw.put lawII (RowLaw.put lawII K2_4.out (p := ⟨w.heap.size + 1, 0, none⟩) (by show w.heap.size + 1 < _; omega) y0) (p := ⟨w.heap.size + 1, 1, none⟩) (by show w.heap.size + 1 < _; omega) y1) (p := ⟨w.heap.size + 1, 2, none⟩) (by show w.heap.size + 1 < _; omega) y2) (p := ⟨w.heap.size + 1, 3, none⟩) (by show w.heap.size + 1 < _; omega) y3) (p := ⟨w.heap.size + 1, 4, none⟩) (by show w.heap.size + 1 < _; omega) y4) (p := ⟨w.heap.size + 1, 5, none⟩) (by show w.heap.size + 1 < _; omega) y5) (p := ⟨w.heap.size + 1, 6, none⟩) (by show w.heap.size + 1 < _; omega) y6)
    have r3 := (OwnCS.put (OwnCS.put (OwnCS.put (OwnCS.put (OwnCS.put (OwnCS.put (OwnCS.put K3_4.out (p := ⟨w.heap.size + 1, 0, none⟩) (by show w.heap.size + 1 < _; omega) y0) (p := ⟨w.heap.size + 1, 1, none⟩) (by show w.heap.size + 1 < _; omega) y1) (p := ⟨w.heap.size + 1, 2, none⟩) (by show w.heap.size + 1 < _; omega) y2) (p := ⟨w.heap.size + 1, 3, none⟩) (by show w.heap.size + 1 < _; omega) y3) (p := ⟨w.heap.size + 1, 4, none⟩) (by show w.heap.size + 1 < _; omega) y4) (p := ⟨w.heap.size + 1, 5, none⟩) (by show w.heap.size + 1 < _; omega) y5) (p := ⟨w.heap.size + 1, 6, none⟩) (by show w.heap.size + 1 < _; omega) y6)
    have r4 := (RowLaw.put lawI (RowLaw.put lawI (RowLaw.put lawI (RowLaw.put lawI (RowLaw.put lawI (RowLaw.put lawI (RowLaw.put lawI K4_4.out (p := ⟨w.heap.size + 1, 0, none⟩) (by show w.heap.size + 1 < _; omega) y0) (p := ⟨w.heap.size + 1, 1, none⟩) (by show w.heap.size + 1 < _; omega) y1) (p := ⟨w.heap.size + 1, 2, none⟩) (by show w.heap.size + 1 < _; omega) y2) (p := ⟨w.heap.size + 1, 3, none⟩) (by show w.heap.size + 1 < _; omega) y3) (p := ⟨w.heap.size + 1, 4, none⟩) (by show w.heap.size + 1 < _; omega) y4) (p := ⟨w.heap.size + 1, 5, none⟩) (by show w.heap.size + 1 < _; omega) y5) (p := ⟨w.heap.size + 1, 6, none⟩) (by show w.heap.size + 1 < _; omega) y6)
    have ez : (((((((W4.setCell ⟨w.heap.size + 1, 0, none⟩ y0).setCell ⟨w.heap.size + 1, 1, none⟩ y1).setCell ⟨w.heap.size + 1, 2, none⟩ y2).setCell ⟨w.heap.size + 1, 3, none⟩ y3).setCell ⟨w.heap.size + 1, 4, none⟩ y4).setCell ⟨w.heap.size + 1, 5, none⟩ y5).setCell ⟨w.heap.size + 1, 6, none⟩ y6).heap.size = W4.heap.size := by simp only [sizeSet]
    rw [heq3] at r3
    refine ⟨⟨W1.heap.size, W2.heap.size, W3.heap.size, S1, S2, S4, by omega, hle2, hle3, by rw [ez]; exact hle4, lawII.mono r1 (by omega), U1.out, r2, U2.out, r3, r4, fun k hk => by rw [ez]; exact U4.out k hk⟩, (((((((hB4.setCell (p := ⟨w.heap.size + 1, 0, none⟩) (by show w.heap.size ≤ w.heap.size + 1; omega) _).setCell (p := ⟨w.heap.size + 1, 1, none⟩) (by show w.heap.size ≤ w.heap.size + 1; omega) _).setCell (p := ⟨w.heap.size + 1, 2, none⟩) (by show w.heap.size ≤ w.heap.size + 1; omega) _).setCell (p := ⟨w.heap.size + 1, 3, none⟩) (by show w.heap.size ≤ w.heap.size + 1; omega) _).setCell (p := ⟨w.heap.size + 1, 4, none⟩) (by show w.heap.size ≤ w.heap.size + 1; omega) _).setCell (p := ⟨w.heap.size + 1, 5, none⟩) (by show w.heap.size ≤ w.heap.size + 1; omega) _).setCell (p := ⟨w.heap.size + 1, 6, none⟩) (by show w.heap.size ≤ w.heap.size + 1; omega) _)⟩
  rw [hW4] at hfin
  obtain ⟨t0, u0⟩ := b3.cell 0 _ rfl
  obtain ⟨m0, n0⟩ := b2.cell 0 _ rfl
  obtain ⟨t1, u1⟩ := b3.cell 1 _ rfl
  obtain ⟨m1, n1⟩ := b2.cell 1 _ rfl
  obtain ⟨t2, u2⟩ := b3.cell 2 _ rfl
  obtain ⟨m2, n2⟩ := b2.cell 2 _ rfl
  obtain ⟨t3, u3⟩ := b3.cell 3 _ rfl
  obtain ⟨m3, n3⟩ := b2.cell 3 _ rfl
  obtain ⟨t4, u4⟩ := b3.cell 4 _ rfl
  obtain ⟨m4, n4⟩ := b2.cell 4 _ rfl
  obtain ⟨t5, u5⟩ := b3.cell 5 _ rfl
  obtain ⟨m5, n5⟩ := b2.cell 5 _ rfl
  obtain ⟨t6, u6⟩ := b3.cell 6 _ rfl
  obtain ⟨m6, n6⟩ := b2.cell 6 _ rfl
  rw [hW4] at t0 m0 n0 t1 m1 n1 t2 m2 n2 t3 m3 n3 t4 m4 n4 t5 m5 n5 t6 m6 n6
  clear u0 u1 u2 u3 u4 u5 u6
  clear b2 b3 hB4 hb4 ko4 hW4
  go_wp2
  refine bodyPost_ret (v := .agg #[.int .i64 x.degree, .int .i64 x.states, .int .i64 x.messages, .slice (some ⟨g1, 0, none⟩) x.start.length x.start.length, .slice (some ⟨g2, 0, none⟩) x.send.length x.send.length, .slice (some ⟨g3, 0, none⟩) x.clauses.length x.clauses.length, .slice D4 x.output.length d4]) (by simp [results, Tryz.results13, go_sem, *]) rfl ?_
  exact ⟨_, _, _, _, rfl, (hfin.out _ _ _ _ _ _ _).1, (hfin.out _ _ _ _ _ _ _).2⟩
end Go.Proofs.YtomnaabadohecaaGreat
namespace Go.Proofs.YtomnaabadohecaaGreat
open Go.RowKit
/-! marks into a machine of one's own -/
theorem set_same {α : Type} {l : List α} {i : Nat} {x : α} (h : l[i]? = some x) : l.set i x = l := by
  apply List.ext_getElem?
  intro j
  rw [List.getElem?_set]
  split
  · rename_i he
    subst he
    have := lt_of_get h
    rw [if_pos this, h]
  · rfl
theorem encC_one {us : List (Int × Value × Int)} {k : Nat} {y : Int × Value × Int} (hy : us[k]? = some y) (s : Int) :
    (us.flatMap encC).set (k * 3) (.int .i64 s) = (us.set k (s, y.2.1, y.2.2)).flatMap encC ∧ (us.flatMap encC).set (k * 3 + 2) (.int .i64 s) = (us.set k (y.1, y.2.1, s)).flatMap encC := by
  have hk := lt_of_get hy
  obtain ⟨e0, e1, e2⟩ := encC_get hy
  constructor
  · rw [← encC_set (s, y.2.1, y.2.2) hk]
    rw [set_same (l := (us.flatMap encC).set (k * 3) (.int .i64 s)) (i := k * 3 + 1) (by rw [List.getElem?_set_ne (by omega)]; exact e1), set_same (l := (us.flatMap encC).set (k * 3) (.int .i64 s)) (i := k * 3 + 2) (by rw [List.getElem?_set_ne (by omega)]; exact e2)]
  · rw [← encC_set (y.1, y.2.1, s) hk]
    rw [set_same (l := us.flatMap encC) (i := k * 3) e0, set_same (l := us.flatMap encC) (i := k * 3 + 1) e1]
theorem OwnC3.set1 {w : World} {base g c n : Nat} {us : List (Int × Value × Int)} {S : List Nat} (h : OwnC3 w base (.slice (some ⟨g, 0, none⟩) n c) us S) {k : Nat} {y : Int × Value × Int} (hy : us[k]? = some y) (s : Int) :
    OwnC3 (w.setCell ⟨g, k * 3, none⟩ (.int .i64 s)) base (.slice (some ⟨g, 0, none⟩) n c) (us.set k (s, y.2.1, y.2.2)) S ∧ OwnC3 (w.setCell ⟨g, k * 3 + 2, none⟩ (.int .i64 s)) base (.slice (some ⟨g, 0, none⟩) n c) (us.set k (y.1, y.2.1, s)) S := by
  obtain ⟨h, hS⟩ := h
  have hn := ownsRow_len h
  subst hn
  obtain ⟨q1, q2⟩ := encC_one hy s
  have h1 := (h.stored (k * 3) (.int .i64 s)).1
  have h2 := (h.stored (k * 3 + 2) (.int .i64 s)).1
  rw [q1] at h1
  rw [q2] at h2
  refine ⟨⟨?_, hS⟩, ⟨?_, hS⟩⟩
  · rw [List.length_set]; exact h1
  · rw [List.length_set]; exact h2
/-- the blocks of a stretch of memory -/
def blks (B E : Nat) : List Nat := List.range' B (E - B)
theorem mem_blks {B E k : Nat} : k ∈ blks B E ↔ B ≤ k ∧ k < E := by unfold blks; rw [List.mem_range'_1]; omega
def cntCl (cs : List Cl) : Nat := 2 * cs.length + szC cs
set_option maxHeartbeats 4000000 in
theorem markClauseS_any (v : Value) (cs : List Cl) (k : Nat) (w : World) (base E : Nat) (h : OwnCS w base E v cs) (hl : k + cntCl cs ≤ 4611686018427387904) :
    Calls Tryz.prog 74 #[v, .int .i64 k] w fun e w' => e = .returned (.int .i64 ((k + cntCl cs : Nat) : Int)) ∧ Only (blks base E) w w' := by
  obtain ⟨g, us, rfl, hbg, hgE, hE, hul, ho, hin, hd⟩ := h
  have hgb : g ∈ blks base E := mem_blks.2 ⟨hbg, hgE⟩
  have Hin := Lib.hid hin
  have Hd := Lib.hid hd
  have Ho := Lib.hid ho
  have HgS := Lib.hid hgb
  clear hin hd ho hgb
  have hcl : cs.length ≤ 4611686018427387904 := by unfold cntCl at hl; omega
  go_enter Tryz.func74, Tryz.ntmps74
  go_wp2
  go_loopw [1, 5] (fun m i wr => ∃ (j : Nat) (us' : List (Int × Value × Int)), j ≤ cs.length ∧ i = .int .i64 j ∧ m = .int .i64 ((k + (2 * j + szC (cs.take j)) : Nat) : Int) ∧ us'.length = cs.length ∧ OwnC3 wr g (.slice (some ⟨g, 0, none⟩) cs.length cs.length) us' [g] ∧ (∀ i x, j ≤ i → cs[i]? = some x → ∃ u T, us'[i]? = some (x.state, u, x.next) ∧ us[i]? = some (x.state, u, x.next) ∧ OwnI wr (g + 1) u x.inbox T ∧ ∀ t ∈ T, t < E) ∧ Only (blks base E) w wr) (fun _ i _ => cs.length - (intOf i).toNat)
  case atStart => exact ⟨0, us, Nat.zero_le _, rfl, by simp [szC], hul, Ho.out, fun i x _ hx => (by obtain ⟨u, T, h1, h2, h3⟩ := Hin.out i x hx; exact ⟨u, T, h1, h1, h2, h3⟩), Only.refl _ _⟩
  case round =>
    obtain ⟨j, us', hj, rfl, rfl, hul', ho', hin', hon⟩ := hrel
    have Ho1 := Lib.hid ho'
    have Hin1 := Lib.hid hin'
    have Hon := Lib.hid hon
    have Hul := Lib.hid hul'
    clear ho' hin' hon hul'
    by_cases hlt : j < cs.length
    · obtain ⟨x, hx⟩ := getx cs j hlt
      obtain ⟨u, T, g1, g1', g2, g3⟩ := Hin1.out j x (Nat.le_refl _) hx
      have hsz := szC_snoc hx
      have hszl := szC_le cs (j + 1)
      have hbd : k + (2 * j + szC (cs.take j)) + 1 + x.inbox.length + 1 ≤ 4611686018427387904 := by unfold cntCl at hl; omega
      have Hsz := Lib.hid hsz
      obtain ⟨cn, hcn⟩ : ∃ cn, k + (2 * j + szC (cs.take j)) = cn := ⟨_, rfl⟩
      rw [hcn] at hbd ⊢
      have Hcn := Lib.hid hcn
      have Hx := Lib.hid hx
      obtain ⟨c1', c2', c3', f1, f2, f3⟩ := Ho1.out.cells g1
      obtain ⟨A1, n1, z1, rfl⟩ := lawI.one g2
      have HG1 := Lib.hid g1
      have HG1' := Lib.hid g1'
      have HG2 := Lib.hid g2
      have HG3 := Lib.hid g3
      have hTg : Hid (∀ t ∈ T, t ≠ g) := fun t ht e => by have := (lawI.range HG2.out t ht).1; omega
      have hTS : Hid (∀ t ∈ T, t ∈ blks base E) := fun t ht => mem_blks.2 ⟨by have := (lawI.range HG2.out t ht).1; omega, HG3.out t ht⟩
      clear g1 g1' g2 g3 hx hcn hsz hszl
      obtain ⟨c1, hc1⟩ : ∃ c1, c1 = cn + 1 := ⟨_, rfl⟩
      obtain ⟨c2, hc2⟩ : ∃ c2, c2 = c1 + x.inbox.length := ⟨_, rfl⟩
      obtain ⟨c3, hc3⟩ : ∃ c3, c3 = c2 + 1 := ⟨_, rfl⟩
      have e1 : IntKind.i64.wrap ((cn : Int) + 1) = (c1 : Int) := by rw [wr64 _ (by omega) (by omega)]; omega
      have e3 : IntKind.i64.wrap ((c2 : Int) + 1) = (c3 : Int) := by rw [wr64 _ (by omega) (by omega)]; omega
      have Hc1 := Lib.hid hc1
      have Hc2 := Lib.hid hc2
      have Hc3 := Lib.hid hc3
      have Hbd : Hid (c1 + x.inbox.length ≤ 9223372036854775807) := by show _ ≤ _; omega
      obtain ⟨W1, hW1⟩ : ∃ W1, W1 = wr.setCell ⟨g, j * 3, none⟩ (.int .i64 cn) := ⟨_, rfl⟩
      have HC1 : Hid (OwnC3 W1 g (.slice (some ⟨g, 0, none⟩) cs.length cs.length) (us'.set j ((cn : Int), .slice A1 n1 z1, x.next)) [g]) := by rw [hW1]; exact (Ho1.out.set1 HG1.out cn).1
      have HB1 : Hid (∀ k, k ≠ g → W1.heap[k]? = wr.heap[k]?) := by rw [hW1]; exact fun k hk => Below.heap_setCell _ _ _ k hk
      have HS1 : Hid (W1.heap.size = wr.heap.size) := by show _ = _; rw [hW1]; simp [World.setCell]
      have HO1 : Hid (OwnI W1 (g + 1) (.slice A1 n1 z1) x.inbox T) := lawI.stable HG2.out (fun t ht => HB1.out t (hTg.out t ht))
      have HN1 : Hid (Only (blks base E) w W1) := by rw [hW1]; exact Hon.out.setCell (.inl HgS.out) _
      have HW1 := Lib.hid hW1
      clear hW1 hc1 hc2 hc3 hbd
      go_upto_region 5 with (fail)
      rw [← HW1.out]
      clear c1' c2' c3' f1 f2 f3
      obtain ⟨d1, d2, d3, q1, q2, q3⟩ := HC1.out.cells (List.getElem?_set_self (by have := lt_of_get HG1.out; omega))
      go_wp2_with fail
      refine (markIntS_any _ x.inbox c1 _ (g + 1) HO1.out.1 Hbd.out).mono ?_
      rw [← Hc2.out]
      rintro e W2 ⟨rfl, hom, hgr⟩
      have hgu : some g ≠ (Value.slice A1 n1 z1).ownBlock := fun e => hTg.out g (by rw [HO1.out.2, ← e]; simp) rfl
      have hgl : g < W1.heap.size := by have := HS1.out; have := Hon.out.size; omega
      have HC2 : Hid (OwnC3 W2 g (.slice (some ⟨g, 0, none⟩) cs.length cs.length) (us'.set j ((cn : Int), .slice A1 n1 z1, x.next)) [g]) := lawC3.stable HC1.out (fun k hk => (by simpa using hk : k = g) ▸ hgr.block g hgl hgu)
      have HN2 : Hid (Only (blks base E) w W2) := HN1.out.trans ((Only.of_grown hgr).mono (fun k hk => hTS.out k (by rw [HO1.out.2]; exact hk)))
      have HG := Lib.hid hgr
      clear hgr hom d1 d2 d3 q1 q2 q3 hgu
      have hjj : (us'.set j ((cn : Int), Value.slice A1 n1 z1, x.next))[j]? = some ((cn : Int), Value.slice A1 n1 z1, x.next) := List.getElem?_set_self (by have := lt_of_get HG1.out; omega)
      obtain ⟨d1, d2, d3, q1, q2, q3⟩ := HC2.out.cells hjj
      obtain ⟨W3, hW3⟩ : ∃ W3, W3 = W2.setCell ⟨g, j * 3 + 2, none⟩ (.int .i64 c2) := ⟨_, rfl⟩
      have HC3 : Hid (OwnC3 W3 g (.slice (some ⟨g, 0, none⟩) cs.length cs.length) ((us'.set j ((cn : Int), .slice A1 n1 z1, x.next)).set j ((cn : Int), .slice A1 n1 z1, (c2 : Int))) [g]) := by rw [hW3]; exact (HC2.out.set1 hjj c2).2
      have HB3 : Hid (∀ k, k ≠ g → W3.heap[k]? = W2.heap[k]?) := by rw [hW3]; exact fun k hk => Below.heap_setCell _ _ _ k hk
      have HN3 : Hid (Only (blks base E) w W3) := by rw [hW3]; exact HN2.out.setCell (.inl HgS.out) _
      have Hjj := Lib.hid hjj
      have HW3 := Lib.hid hW3
      clear hW3 hjj
      go_upto_region 8 with (fail)
      rw [← HW3.out]
      go_wp2
      go_roundw
      case rel =>
        refine ⟨j + 1, _, by omega, by go_num, by congr 2; rw [Hc3.out, Hc2.out, Hc1.out, ← Hcn.out, Hsz.out]; omega, by simp [Hul.out], HC3.out, fun i y hji hy => ?_, HN3.out⟩
        obtain ⟨u', T', k1, k2, k3, k4⟩ := Hin1.out i y (by omega) hy
        refine ⟨u', T', ?_, k2, ?_, k4⟩
        · rw [List.getElem?_set_ne (by omega), List.getElem?_set_ne (by omega)]; exact k1
        · refine lawI.stable k3 (fun t ht => ?_)
          have h1 : t ≠ g := by have := (lawI.range k3 t ht).1; omega
          have h2 : t < wr.heap.size := (lawI.range k3 t ht).2
          have h3 : some t ≠ (Value.slice A1 n1 z1).ownBlock := fun e => by
            have h5 : u'.ownBlock = some t := by have := ht; rw [k3.2] at this; simpa using this
            exact Hd.out j i _ _ t (by omega) HG1'.out k2 e.symm h5
          exact (HB3.out t h1).trans ((HG.out.block t (by rw [HS1.out]; exact h2) h3).trans (HB1.out t h1))
      case measure => simp [intOf]; omega
    · obtain rfl : j = cs.length := by omega
      rw [List.take_length]
      go_wp2
      go_ret
      exact ⟨rfl, Hon.out⟩
end Go.Proofs.YtomnaabadohecaaGreat
namespace Go.Proofs.YtomnaabadohecaaGreat
open Go.RowKit
/-! marks of a machine -/
theorem OwnMac.keep {w w' : World} {B E : Nat} {a b c d : Value} {x : Mac} (h : OwnMac w B E a b c d x) (hb : Below w.heap.size w w') : OwnMac w' B E a b c d x := by
  obtain ⟨E1, E2, E3, S1, S2, S4, e1, e2, e3, e4, h1, b1, h2, b2, h3, h4, b4⟩ := h
  exact ⟨E1, E2, E3, S1, S2, S4, e1, e2, e3, e4, lawII.keep h1 hb, b1, lawII.keep h2 hb, b2, h3.keep hb, lawI.keep h4 hb, b4⟩
def cntMac (x : Mac) : Nat := szR x.start + szR x.send + cntCl x.clauses + x.output.length
set_option maxHeartbeats 8000000 in
theorem markMachine_any (a b c d : Value) (x : Mac) (k : Nat) (w : World) (B E : Nat) (h : OwnMac w B E a b c d x) (hl : k + cntMac x ≤ 4611686018427387904) :
    Calls Tryz.prog 19 #[.agg #[.int .i64 x.degree, .int .i64 x.states, .int .i64 x.messages, a, b, c, d], .int .i64 k] w fun e w' => e = .returned (.int .i64 ((k + cntMac x : Nat) : Int)) ∧ Only (blks B E) w w' := by
  unfold cntMac at hl ⊢
  obtain ⟨E1, E2, E3, S1, S2, S4, e1, e2, e3, e4, h1, b1, h2, b2, h3, h4, b4⟩ := h
  have r1 := lawII.range h1
  have r2 := lawII.range h2
  have r4 := lawI.range h4
  have hE3 : E3 ≤ w.heap.size := by obtain ⟨_, _, _, _, _, z, _⟩ := h3; exact z
  have hb0 : Below w.heap.size w (w.alloc (.cells #[.int .i64 x.degree, .int .i64 x.states, .int .i64 x.messages, a, b, c, d] 39)) := below_alloc _ _
  have H1 := Lib.hid (lawII.keep h1 hb0)
  have H2 := Lib.hid (lawII.keep h2 hb0)
  have H3 := Lib.hid (h3.keep hb0)
  have H4 := Lib.hid (lawI.keep h4 hb0)
  have Hb0 := Lib.hid hb0
  have R1 : Hid (∀ j ∈ S1, B ≤ j ∧ j < E1 ∧ j < w.heap.size) := fun j hj => ⟨(r1 j hj).1, b1 j hj, (r1 j hj).2⟩
  have R2 : Hid (∀ j ∈ S2, E1 ≤ j ∧ j < E2 ∧ j < w.heap.size) := fun j hj => ⟨(r2 j hj).1, b2 j hj, (r2 j hj).2⟩
  have R4 : Hid (∀ j ∈ S4, E3 ≤ j ∧ j < E ∧ j < w.heap.size) := fun j hj => ⟨(r4 j hj).1, b4 j hj, (r4 j hj).2⟩
  have HE : Hid ((B ≤ E1 ∧ E1 ≤ E2) ∧ (E2 ≤ E3 ∧ E3 ≤ E) ∧ E3 ≤ w.heap.size) := ⟨⟨e1, e2⟩, ⟨e3, e4⟩, hE3⟩
  obtain ⟨A1, n1, z1, rfl⟩ := lawII.one h1
  obtain ⟨A2, n2, z2, rfl⟩ := lawII.one h2
  obtain ⟨g3, us3, rfl, -⟩ := h3
  obtain ⟨A4, n4, z4, rfl⟩ := lawI.one h4
  clear h1 h2 h4 hb0 r1 r2 r4 b1 b2 b4 e1 e2 e3 e4 hE3
  go_enter Tryz.func19, Tryz.ntmps19
  go_wp2_with fail
  refine (markIntSS_any _ x.start k _ B S1 H1.out (by omega)).mono ?_
  rintro e w1 ⟨rfl, -, t⟩
  have c1 : w1.cell? ⟨w.heap.size, 4, none⟩ = some (.slice A2 n2 z2) := t.cell (fun hh => by have := R1.out _ hh; simp at this) (by simp)
  have c2 : w1.cell? ⟨w.heap.size, 5, none⟩ = some (.slice (some ⟨g3, 0, none⟩) x.clauses.length x.clauses.length) := t.cell (fun hh => by have := R1.out _ hh; simp at this) (by simp)
  have c3 : w1.cell? ⟨w.heap.size, 6, none⟩ = some (.slice A4 n4 z4) := t.cell (fun hh => by have := R1.out _ hh; simp at this) (by simp)
  have G2 := Lib.hid (lawII.only H2.out t (fun j hj hh => by have := R1.out j hh; have := R2.out j hj; omega))
  have G3 := Lib.hid (H3.out.stable t.size (fun j hj1 hj2 => t.block j (by have := HE.out; simp; omega) (fun hh => by have := R1.out j hh; have := HE.out; omega)))
  have G4 := Lib.hid (lawI.only H4.out t (fun j hj hh => by have := R1.out j hh; have := R4.out j hj; have := HE.out; omega))
  have T1 := Lib.hid t
  clear t H1 H2 H3 H4
  go_wp2_with fail
  refine (markIntSS_any _ x.send (k + szR x.start) _ E1 S2 G2.out (by omega)).mono ?_
  rintro e w2 ⟨rfl, -, t⟩
  replace c2 := t.cell (fun hh => by have := R2.out _ hh; simp at this) c2
  replace c3 := t.cell (fun hh => by have := R2.out _ hh; simp at this) c3
  clear c1
  have K3 := Lib.hid (G3.out.stable t.size (fun j hj1 hj2 => t.block j (by have := HE.out; have := T1.out.size; have : w.heap.size ≤ w1.heap.size := Nat.le_trans Hb0.out.size T1.out.size; omega) (fun hh => by have := R2.out j hh; have := HE.out; omega)))
  have K4 := Lib.hid (lawI.only G4.out t (fun j hj hh => by have := R2.out j hh; have := R4.out j hj; have := HE.out; omega))
  have T2 := Lib.hid t
  clear t G2 G3 G4
  go_wp2_with fail
  refine (markClauseS_any _ x.clauses (k + szR x.start + szR x.send) _ E2 E3 K3.out (by omega)).mono ?_
  rintro e w3 ⟨rfl, t⟩
  replace c3 := t.cell (fun hh => by have h5 : E2 ≤ w.heap.size ∧ w.heap.size < E3 := mem_blks.1 hh; have := HE.out; omega) c3
  clear c2
  have M4 := Lib.hid (lawI.only K4.out t (fun j hj hh => by have := mem_blks.1 hh; have := R4.out j hj; omega))
  have T3 := Lib.hid t
  clear t K3 K4
  go_wp2_with fail
  refine (markIntS_any _ x.output (k + szR x.start + szR x.send + cntCl x.clauses) _ E3 (by exact M4.out.1) (by omega)).mono ?_
  rintro e w4 ⟨rfl, -, g⟩
  have t := Only.of_grown g
  rw [← M4.out.2] at t
  have T4 := Lib.hid t
  clear t g c3
  go_wp2_with fail
  go_ret
  refine ⟨ret_int (by omega), ?_⟩
  have u1 : ∀ j ∈ S1, j ∈ blks B E := fun j hj => mem_blks.2 (by have := R1.out j hj; have := HE.out; omega)
  have u2 : ∀ j ∈ S2, j ∈ blks B E := fun j hj => mem_blks.2 (by have := R2.out j hj; have := HE.out; omega)
  have u3 : ∀ j ∈ blks E2 E3, j ∈ blks B E := fun j hj => mem_blks.2 (by have := mem_blks.1 hj; have := HE.out; omega)
  have u4 : ∀ j ∈ S4, j ∈ blks B E := fun j hj => mem_blks.2 (by have := R4.out j hj; have := HE.out; omega)
  exact ((((Only.of_below Hb0.out).trans (T1.out.mono u1)).trans (T2.out.mono u2)).trans (T3.out.mono u3)).trans (T4.out.mono u4)
end Go.Proofs.YtomnaabadohecaaGreat
namespace Go.Proofs.YtomnaabadohecaaGreat
open Go.RowKit
/-! a machine in memory of its own, with the list of its blocks -/
def OwnM (w : World) (B : Nat) (a b c d : Value) (x : Mac) (S : List Nat) : Prop := ∃ E, B ≤ E ∧ E ≤ w.heap.size ∧ S = blks B E ∧ OwnMac w B E a b c d x ∧ x.clauses.length ≤ maxLen
theorem OwnCS.stableE {w w' : World} {base E : Nat} {v : Value} {cs : List Cl} (h : OwnCS w base E v cs) (hs : E ≤ w'.heap.size) (hb : ∀ k, base ≤ k → k < E → w'.heap[k]? = w.heap[k]?) : OwnCS w' base E v cs := by
  obtain ⟨g, us, rfl, h1, h2, h3, h4, h5, h6, h7⟩ := h
  refine ⟨g, us, rfl, h1, h2, hs, h4, lawC3.stable h5 (fun k hk => ?_), fun j x hx => ?_, h7⟩
  · obtain rfl : k = g := by simpa using hk
    exact hb k h1 h2
  · obtain ⟨u, T, g1, g2, g3⟩ := h6 j x hx
    exact ⟨u, T, g1, lawI.stable g2 (fun k hk => hb k (by have := (lawI.range g2 k hk).1; omega) (g3 k hk)), g3⟩
theorem OwnM.read {w : World} {B : Nat} {a b c d : Value} {x : Mac} {S : List Nat} (h : OwnM w B a b c d x S) : MacIn w a b c d x := by
  obtain ⟨E, _, _, _, ⟨E1, E2, E3, S1, S2, S4, e1, e2, e3, e4, h1, b1, h2, b2, h3, h4, b4⟩, hl⟩ := h
  exact ⟨h1.read, h2.read, h3.read hl, h4.1.ints⟩
theorem OwnM.range {w : World} {B : Nat} {a b c d : Value} {x : Mac} {S : List Nat} (h : OwnM w B a b c d x S) : ∀ j ∈ S, B ≤ j ∧ j < w.heap.size := by
  obtain ⟨E, _, h1, rfl, _⟩ := h
  intro j hj
  have := mem_blks.1 hj
  omega
theorem OwnM.stable {w w' : World} {B : Nat} {a b c d : Value} {x : Mac} {S : List Nat} (h : OwnM w B a b c d x S) (hs : ∀ k ∈ S, w'.heap[k]? = w.heap[k]?) : OwnM w' B a b c d x S := by
  obtain ⟨E, hBE, hE, rfl, ⟨E1, E2, E3, S1, S2, S4, e1, e2, e3, e4, h1, b1, h2, b2, h3, h4, b4⟩, hl⟩ := h
  have hk : ∀ k, B ≤ k → k < E → w'.heap[k]? = w.heap[k]? := fun k k1 k2 => hs k (mem_blks.2 ⟨k1, k2⟩)
  have hlt : E2 < E3 := by obtain ⟨_, _, _, _, _, _⟩ := h3; omega
  have hw' : E ≤ w'.heap.size := by
    have h5 := hk (E - 1) (by omega) (by omega)
    rw [Array.getElem?_eq_getElem (xs := w.heap) (by omega)] at h5
    have := (Array.getElem?_eq_some_iff.1 h5).1
    omega
  refine ⟨E, hBE, hw', rfl, ⟨E1, E2, E3, S1, S2, S4, e1, e2, e3, e4, lawII.stable h1 (fun k k1 => hk k ?_ ?_), b1, lawII.stable h2 (fun k k1 => hk k ?_ ?_), b2, h3.stableE (by omega) (fun k k1 k2 => hk k (by omega) (by omega)), lawI.stable h4 (fun k k1 => hk k ?_ (b4 k k1)), b4⟩, hl⟩
  · exact (lawII.range h1 k k1).1
  · have := b1 k k1; omega
  · have := (lawII.range h2 k k1).1; omega
  · have := b2 k k1; omega
  · have := (lawI.range h4 k k1).1; omega
theorem OwnM.keep {w w' : World} {B : Nat} {a b c d : Value} {x : Mac} {S : List Nat} (h : OwnM w B a b c d x S) (hb : Below w.heap.size w w') : OwnM w' B a b c d x S := h.stable fun k hk => hb.block k (h.range k hk).2
theorem toMachine_ownM (a b c d : Value) (x : Mac) (w : World) (h : MacIn w a b c d x) (hl : szMac x ≤ 1048576) : Calls Tryz.prog 13 #[.agg #[.int .i64 x.degree, .int .i64 x.states, .int .i64 x.messages, a, b, c, d]] w fun e w' => ∃ a b c d S, e = .returned (.agg #[.int .i64 x.degree, .int .i64 x.states, .int .i64 x.messages, a, b, c, d]) ∧ OwnM w' w.heap.size a b c d x S ∧ Below w.heap.size w w' := by
  refine (toMachine_own a b c d x w h hl).mono ?_
  rintro e w' ⟨a', b', c', d', rfl, ho, hb⟩
  refine ⟨a', b', c', d', _, rfl, ⟨_, hb.size, Nat.le_refl _, rfl, ho, ?_⟩, hb⟩
  unfold szMac szCl at hl
  unfold maxLen
  omega
theorem markMachine_anyS (a b c d : Value) (x : Mac) (k : Nat) (w : World) (B : Nat) (S : List Nat) (h : OwnM w B a b c d x S) (hl : k + cntMac x ≤ 4611686018427387904) :
    Calls Tryz.prog 19 #[.agg #[.int .i64 x.degree, .int .i64 x.states, .int .i64 x.messages, a, b, c, d], .int .i64 k] w fun e w' => e = .returned (.int .i64 ((k + cntMac x : Nat) : Int)) ∧ True ∧ Only S w w' := by
  obtain ⟨E, _, _, rfl, ho, _⟩ := h
  refine (markMachine_any a b c d x k w B E ho hl).mono ?_
  rintro e w' ⟨rfl, h⟩
  exact ⟨rfl, trivial, h⟩
end Go.Proofs.YtomnaabadohecaaGreat
namespace Go.Proofs.YtomnaabadohecaaGreat
open Go Go.RowKit
/-! a result of type AsyncState that is laid into a variable -/
def AsV (rs : ASt) (u : Value) : Prop := ∃ A0 z0 A1 z1 A2 z2 A3 z3 A4 z4, u = .agg #[.slice A0 rs.rounds.length z0, .slice A1 rs.before.length z1, .slice A2 rs.now.length z2, .slice A3 rs.slots.length z3, .slice A4 rs.flight.length z4]
theorem AsV.of {w : World} {a b c d f : Value} {x : ASt} (h : AsIn w a b c d f x) : AsV x (.agg #[a, b, c, d, f]) := by
  obtain ⟨A1, z1, rfl, _⟩ := id h.1
  obtain ⟨A2, z2, rfl, _⟩ := id h.2.1
  obtain ⟨A3, z3, rfl, _⟩ := id h.2.2.1
  obtain ⟨A4, z4, rfl, _⟩ := id h.2.2.2.1
  obtain ⟨A5, z5, rfl, _⟩ := id h.2.2.2.2
  exact ⟨A1, z1, A2, z2, A3, z3, A4, z4, A5, z5, rfl⟩
theorem fnExactStartAsync_cnt (m : Mac) (n : Net) (_ : szMac m ≤ 1048576) (h : szNet n ≤ 1048576) : cntAs (fnExactStartAsync_r0 m n) ≤ 1000000000 := startAs_cnt m n h
def oAs (B : Nat) (rs : ASt) (t : Bool) (u : Value) (W : World) (lo hi : Nat) : Prop := B ≤ lo ∧ ∃ a b c d f S, u = .tuple #[.agg #[a, b, c, d, f], .bool t] ∧ OwnAs W lo a b c d f rs S ∧ ∀ j ∈ S, j < hi
theorem oAs.keep {B : Nat} {rs : ASt} {t : Bool} {u : Value} {W W' : World} {lo hi : Nat} (h : oAs B rs t u W lo hi) (hs : Since W W') : oAs B rs t u W' lo hi := by
  obtain ⟨h0, a, b, c, d, f, S, rfl, h1, h2⟩ := h
  exact ⟨h0, a, b, c, d, f, S, rfl, h1.keep hs.below, h2⟩
def oRs (B : Nat) (rs : ASt) (t : Bool) (c i : Nat) (u : Value) (W : World) (lo hi : Nat) : Prop := if i = c then oAs B rs t u W lo hi else oBx B nil5 34 u W lo hi
theorem oRs.keep {B : Nat} {rs : ASt} {t : Bool} {c i : Nat} {u : Value} {W W' : World} {lo hi : Nat} (h : oRs B rs t c i u W lo hi) (hs : Since W W') : oRs B rs t c i u W' lo hi := by
  unfold oRs at h ⊢
  split
  · rename_i e; rw [if_pos e] at h; exact h.keep hs
  · rename_i e; rw [if_neg e] at h; exact h.keep hs
theorem oRs.call {B : Nat} {rs : ASt} {t : Bool} {c : Nat} {W W' : World} {a b x d f : Value} {S : List Nat} (hB : B ≤ W.heap.size) (h : OwnAs W' W.heap.size a b x d f rs S) : oRs B rs t c c (.tuple #[.agg #[a, b, x, d, f], .bool t]) W' W.heap.size W'.heap.size := by
  unfold oRs
  rw [if_pos rfl]
  exact ⟨hB, a, b, x, d, f, S, rfl, h, fun j hj => (h.range j hj).2⟩
theorem oRs.box {B : Nat} {rs : ASt} {t : Bool} {c i : Nat} (W : World) (hi : i ≠ c) (hB : B ≤ W.heap.size) : oRs B rs t c i (.pointer (some ⟨W.heap.size, 0, none⟩)) (W.alloc (.cells nil5 34)) W.heap.size (W.alloc (.cells nil5 34)).heap.size := by
  unfold oRs
  rw [if_neg hi]
  exact oBx.new W _ _ hB
theorem as_stored {W0 W : World} {rs : ASt} {t : Bool} {c i : Nat} {u p : Value} {l1 h1 l2 h2 : Nat} (hW : Since W0 W) (o1 : oRs W0.heap.size rs t c c u W l1 h1) (o2 : oRs W0.heap.size rs t c i p W l2 h2) (hi : i ≠ c) (hd : h1 ≤ l2 ∨ h2 ≤ l1) :
    ∃ bx A0 z0 A1 z1 A2 z2 A3 z3 A4 z4, p = .pointer (some ⟨bx, 0, none⟩) ∧ u = .tuple #[.agg #[.slice A0 rs.rounds.length z0, .slice A1 rs.before.length z1, .slice A2 rs.now.length z2, .slice A3 rs.slots.length z3, .slice A4 rs.flight.length z4], .bool t] ∧
      Since W0 (stA5 (.pointer (some ⟨bx, 0, none⟩)) (.agg #[.slice A0 rs.rounds.length z0, .slice A1 rs.before.length z1, .slice A2 rs.now.length z2, .slice A3 rs.slots.length z3, .slice A4 rs.flight.length z4]) W) ∧
      AsIn (stA5 (.pointer (some ⟨bx, 0, none⟩)) (.agg #[.slice A0 rs.rounds.length z0, .slice A1 rs.before.length z1, .slice A2 rs.now.length z2, .slice A3 rs.slots.length z3, .slice A4 rs.flight.length z4]) W) (.slice A0 rs.rounds.length z0) (.slice A1 rs.before.length z1) (.slice A2 rs.now.length z2) (.slice A3 rs.slots.length z3) (.slice A4 rs.flight.length z4) rs ∧
      BoxA (stA5 (.pointer (some ⟨bx, 0, none⟩)) (.agg #[.slice A0 rs.rounds.length z0, .slice A1 rs.before.length z1, .slice A2 rs.now.length z2, .slice A3 rs.slots.length z3, .slice A4 rs.flight.length z4]) W) bx #[.slice A0 rs.rounds.length z0, .slice A1 rs.before.length z1, .slice A2 rs.now.length z2, .slice A3 rs.slots.length z3, .slice A4 rs.flight.length z4] := by
  unfold oRs at o1 o2
  rw [if_pos rfl] at o1
  rw [if_neg hi] at o2
  obtain ⟨q0, a, b, x, d, f, S, rfl, ho, hS⟩ := o1
  obtain ⟨q1, bx, rfl, hb1, hb2, hb3⟩ := o2
  obtain ⟨A1, z1, rfl, _⟩ := id ho.read.1
  obtain ⟨A2, z2, rfl, _⟩ := id ho.read.2.1
  obtain ⟨A3, z3, rfl, _⟩ := id ho.read.2.2.1
  obtain ⟨A4, z4, rfl, _⟩ := id ho.read.2.2.2.1
  obtain ⟨A5, z5, rfl, _⟩ := id ho.read.2.2.2.2
  have hbx : BoxA W bx nil5 := ⟨_, hb3⟩
  unfold nil5 at hbx
  obtain ⟨k1, k2, k3⟩ := stA5_box (v0 := .slice A1 rs.rounds.length z1) (v1 := .slice A2 rs.before.length z2) (v2 := .slice A3 rs.now.length z3) (v3 := .slice A4 rs.slots.length z4) (v4 := .slice A5 rs.flight.length z5) hbx
  refine ⟨bx, A1, z1, A2, z2, A3, z3, A4, z4, A5, z5, rfl, rfl, stA5_below hW.below (by omega), ?_, k1⟩
  exact (ho.stable (fun j hj => k2 j (by have := hS j hj; have := (ho.range j hj).1; omega))).read
end Go.Proofs.YtomnaabadohecaaGreat
