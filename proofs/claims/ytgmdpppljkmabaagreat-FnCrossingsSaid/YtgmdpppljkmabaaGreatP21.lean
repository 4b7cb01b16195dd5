/- Parts of the proof: walks of functions and plain laws. -/
import Derived.Test.YtgmdpppljkmabaaGreatP0
import Derived.Test.YtgmdpppljkmabaaGreatP20
namespace Go.Proofs.YtgmdpppljkmabaaGreat
open Go Go.RowKit
/-! neUnion -/
set_option maxRecDepth 100000 in
set_option maxHeartbeats 8000000 in
theorem neUnion_any (ve vi vn ue ui un : Value) (a b : Net) (w : World) (h : NetIn w ve vi vn a) (h' : NetIn w ue ui un b) (ha : SmallN a) (hb : SmallN b) (hwf : WfN b) :
  Calls Tryz.prog 192 #[.agg #[ve, vi, vn], .agg #[ue, ui, un]] w (NewNet w (unionN a b)) := by
 obtain ⟨A1, c1, rfl, hl1, hm1, -⟩ := id h.1
 obtain ⟨AI, cI, rfl, -, -, -⟩ := id h.2.1
 obtain ⟨AN, cN, rfl, -, -, -⟩ := id h.2.2
 obtain ⟨B1, d1, rfl, hl2, hm2, -⟩ := id h'.1
 obtain ⟨BI, dI, rfl, -, -, -⟩ := id h'.2.1
 obtain ⟨BN, dN, rfl, -, -, -⟩ := id h'.2.2
 unfold maxLen at hm1 hm2
 obtain ⟨w0, hw0⟩ : ∃ z, z = (w.alloc (.cells #[.slice A1 a.ends.length c1, .slice AI a.ids.length cI, .slice AN a.inputs.length cN] 27)).alloc (.cells #[.slice B1 b.ends.length d1, .slice BI b.ids.length dI, .slice BN b.inputs.length dN] 27) := ⟨_, rfl⟩
 obtain ⟨wa, hwa⟩ : ∃ z, z = w0.alloc (.cells #[.slice none 0 0, .slice none 0 0, .slice none 0 0] 27) := ⟨_, rfl⟩
 have hs0 : Since w w0 := by rw [hw0]; exact since_alloc _ (since_alloc _ (since_refl _))
 have hsa : Since w0 wa := by rw [hwa]; exact since_alloc _ (since_refl _)
 have h01 : w0.heap.size = w.heap.size + 1 + 1 := by rw [hw0]; simp
 have p0 : ∀ W, Since w0 W → W.cell? ⟨w.heap.size, 0, none⟩ = some (.slice A1 a.ends.length c1) := have_cell (by rw [hw0]; simp)
 have p1 : ∀ W, Since w0 W → W.cell? ⟨w.heap.size, 1, none⟩ = some (.slice AI a.ids.length cI) := have_cell (by rw [hw0]; simp)
 have p2 : ∀ W, Since w0 W → W.cell? ⟨w.heap.size, 2, none⟩ = some (.slice AN a.inputs.length cN) := have_cell (by rw [hw0]; simp)
 have q0 : ∀ W, Since w0 W → W.cell? ⟨w.heap.size + 1, 0, none⟩ = some (.slice B1 b.ends.length d1) := have_cell (by rw [hw0]; simp)
 have q1 : ∀ W, Since w0 W → W.cell? ⟨w.heap.size + 1, 1, none⟩ = some (.slice BI b.ids.length dI) := have_cell (by rw [hw0]; simp)
 have q2 : ∀ W, Since w0 W → W.cell? ⟨w.heap.size + 1, 2, none⟩ = some (.slice BN b.inputs.length dN) := have_cell (by rw [hw0]; simp)
 have HA := Lib.hid (show ∀ X, Since w0 X → NetIn X (.slice A1 a.ends.length c1) (.slice AI a.ids.length cI) (.slice AN a.inputs.length cN) a from fun X hX => h.keep (hs0.after hX).below)
 have HB := Lib.hid (show ∀ X, Since w0 X → NetIn X (.slice B1 b.ends.length d1) (.slice BI b.ids.length dI) (.slice BN b.inputs.length dN) b from fun X hX => h'.keep (hs0.after hX).below)
 have HRb : Hid (∀ X, Since wa X → BoxN X (w.heap.size + 1 + 1) (.slice none 0 0) (.slice none 0 0) (.slice none 0 0)) := fun X hX => by
  refine BoxN.since (W := wa) ?_ hX
  rw [hwa, ← h01]
  show (w0.heap.push _)[w0.heap.size]? = _
  rw [Array.getElem?_push_size]
 have Hza : Hid (wa.heap.size = w.heap.size + 1 + 1 + 1) := by show _ = _; rw [hwa, ← h01]; simp
 have Hw0 := Lib.hid hw0
 have Hwa := Lib.hid hwa
 have Hs0 := Lib.hid hs0
 have Hsa := Lib.hid hsa
 have Hsm := Lib.hid ha
 have Hsb := Lib.hid hb
 have Hwf := Lib.hid hwf
 clear hwf
 clear hw0 hs0 h h' hwa hsa h01 ha hb
 go_enter Tryz.func192, Tryz.ntmps192
 go_upto_region 1 with (fail)
 rw [← Hw0.out, ← Hwa.out]
 have a0 := p0 wa Hsa.out
 have a1 := p1 wa Hsa.out
 have a2 := p2 wa Hsa.out
 go_wp2_with fail
 refine (neOwn_gen _ _ _ a wa (HA.out wa Hsa.out) Hsm.out.ends Hsm.out.row Hsm.out.sz).mono ?_
 rintro e w1 ⟨we, wi, wn, S, rfl, ho, hb1⟩
 obtain ⟨E1, e1, rfl, -, -, -⟩ := id ho.read.1
 obtain ⟨EI, eI, rfl, -, -, -⟩ := id ho.read.2.1
 obtain ⟨EN, eN, rfl, -, -, -⟩ := id ho.read.2.2
 obtain ⟨w2, hw2⟩ : ∃ z, z = w1.alloc (.cells #[.slice E1 a.ends.length e1, .slice EI a.ids.length eI, .slice EN a.inputs.length eN] 27) := ⟨_, rfl⟩
 obtain ⟨bo, hbo⟩ : ∃ z, z = w1.heap.size := ⟨_, rfl⟩
 have hs1 : Since wa w1 := hb1
 have h12 : Since w1 w2 := by rw [hw2]; exact since_alloc _ (since_refl _)
 have hB2 : Box3 w2 bo (.slice E1 a.ends.length e1) (.slice EI a.ids.length eI) (.slice EN a.inputs.length eN) := by rw [hw2, hbo]; exact Box3.new _ _ _ _ _
 have hN2 : bo ∉ S := fun hj => by have := (ho.range _ hj).2; omega
 have Hw2 := Lib.hid hw2
 have Hbo := Lib.hid hbo
 have HO2 := Lib.hid (ho.keep h12.below)
 have HB2 := Lib.hid hB2
 have HN2 := Lib.hid hN2
 have Hs2 := Lib.hid (hs1.after h12)
 have hs02 : Since w0 w2 := Hsa.out.after Hs2.out
 have b1 := q1 w2 hs02
 have Hs02 := Lib.hid hs02
 have Hbb : Hid (wa.heap.size ≤ bo ∧ bo < w2.heap.size) := ⟨by rw [hbo]; exact hs1.below.size, by rw [hw2, hbo]; simp⟩
 obtain ⟨k0, k1, k2, f0, f1, f2⟩ := hB2.cells
 clear hw2 hbo ho hB2 hN2 hs1 h12 hb1 a0 a1 a2 hs02
 go_upto_region 2 with (fail)
 rw [← Hw2.out, ← Hbo.out]
 obtain ⟨S1, S2, S3, -, hi2, -, hS2, -⟩ := id HO2.out
 have Hi2 := Lib.hid hi2
 have HS2 := Lib.hid hS2
 clear hi2 hS2
 have hlen1 : a.ids.length + b.ids.length ≤ 17592186044416 := by have h1 := Hsm.out.sz; have h2 := Hsb.out.sz; unfold szNet at h1 h2; omega
 have hlen2 : a.inputs.length + b.inputs.length ≤ 17592186044416 := by have h1 := Hsm.out.sz; have h2 := Hsb.out.sz; unfold szNet at h1 h2; omega
 have Hl1 := Lib.hid hlen1
 have Hl2 := Lib.hid hlen2
 clear hlen1 hlen2
 have hnoI : Hid (bo ∉ (Value.slice EI a.ids.length eI).ownBlock.toList) := fun hm => HN2.out (by rw [HS2.out]; rw [← Hi2.out.2] at hm; exact List.mem_append_right _ (List.mem_append_left _ hm))
 go_upto_region 3 with (at_builtin; refine app_intsA (base := wa.heap.size) rfl _ _ rfl rfl Hi2.out.1 rfl (HB.out w2 Hs02.out).2.1 Hl1.out Hs2.out.below.size ?_; intro v' w3 T ho3 hon3 hT3; obtain ⟨V, mV, cV, rfl⟩ := lawI.one ho3; have hB3 : Box3 w3 bo (.slice E1 a.ends.length e1) (.slice EI a.ids.length eI) (.slice EN a.inputs.length eN) := HB2.out.blk (hon3.block bo Hbb.out.2 hnoI.out); clear k0 k1 k2 f0 f1 f2; obtain ⟨k0, k1, k2, f0, f1, f2⟩ := hB3.cells)
 obtain ⟨w4, hw4⟩ : ∃ z, z = w3.setCell ⟨bo, 1, none⟩ (.slice V mV cV) := ⟨_, rfl⟩
 rw [← hw4]
 obtain ⟨S', hO', hS'⟩ := HO2.out.turnIds ho3 hon3 hT3
 have hn4 : bo ∉ S' := fun hj => by
  rcases hS' _ hj with h | h
  ·exact HN2.out h
  ·have := Hbb.out; omega
 have HO4 : Hid (OwnNet w4 wa.heap.size (.slice E1 a.ends.length e1) (.slice V mV cV) (.slice EN a.inputs.length eN) { a with ids := a.ids ++ b.ids } S') := by show OwnNet _ _ _ _ _ _ _; rw [hw4]; exact hO'.stable (fun k hk => Below.heap_setCell _ _ _ _ (fun e => hn4 (by have e' : k = bo := e; exact e' ▸ hk)))
 have HB4 : Hid (Box3 w4 bo (.slice E1 a.ends.length e1) (.slice V mV cV) (.slice EN a.inputs.length eN)) := by show Box3 _ _ _ _ _; rw [hw4]; exact hB3.put1
 have HN4 := Lib.hid hn4
 have Hs4 : Hid (Since wa w4) := by
  show Below _ _ _
  rw [hw4]
  refine Below.setCell (Below.trans Hs2.out (hon3.below _ Hs2.out.below.size (fun j hj => ?_))) Hbb.out.1 _
  have hj2 : j ∈ S2 := by rw [Hi2.out.2]; exact hj
  exact (HO2.out.range j (by rw [HS2.out]; exact List.mem_append_right _ (List.mem_append_left _ hj2))).1
 have hbl4 : bo < w4.heap.size := HB4.out.lt
 obtain ⟨S1', S2', S3', -, -, hi3, hS3, -⟩ := id HO4.out
 have Hi3 := Lib.hid hi3
 have HS3 := Lib.hid hS3
 have Hbl4 := Lib.hid hbl4
 have Hs04 := Lib.hid (Hsa.out.after Hs4.out)
 have hnoN : Hid (bo ∉ (Value.slice EN a.inputs.length eN).ownBlock.toList) := fun hm => HN4.out (by rw [HS3.out]; rw [← Hi3.out.2] at hm; exact List.mem_append_right _ (List.mem_append_right _ hm))
 clear hw4 hO' hS' hn4 hB3 ho3 hon3 hT3 k0 k1 k2 f0 f1 f2 hi3 hS3 hbl4
 have b2 := q2 w4 Hs04.out
 obtain ⟨k0, k1, k2, f0, f1, f2⟩ := HB4.out.cells
 clear b1
 go_upto_region 4 with (at_builtin; refine app_intsA (base := wa.heap.size) rfl _ _ rfl rfl Hi3.out.1 rfl (HB.out w4 Hs04.out).2.2 Hl2.out Hs4.out.below.size ?_; intro v' w5 T5 ho5 hon5 hT5; obtain ⟨V5, mV5, cV5, rfl⟩ := lawI.one ho5; have hB5 : Box3 w5 bo (.slice E1 a.ends.length e1) (.slice V mV cV) (.slice EN a.inputs.length eN) := HB4.out.blk (hon5.block bo Hbl4.out hnoN.out); clear k0 k1 k2 f0 f1 f2; obtain ⟨k0, k1, k2, f0, f1, f2⟩ := hB5.cells)
 obtain ⟨w6, hw6⟩ : ∃ z, z = w5.setCell ⟨bo, 2, none⟩ (.slice V5 mV5 cV5) := ⟨_, rfl⟩
 rw [← hw6]
 obtain ⟨S6, hO', hS'⟩ := HO4.out.turnIn ho5 hon5 hT5
 have hn6 : bo ∉ S6 := fun hj => by
  rcases hS' _ hj with h | h
  ·exact HN4.out h
  ·have := Hbl4.out; omega
 have HO6 : Hid (OwnNet w6 wa.heap.size (.slice E1 a.ends.length e1) (.slice V mV cV) (.slice V5 mV5 cV5) { a with ids := a.ids ++ b.ids, inputs := a.inputs ++ b.inputs } S6) := by show OwnNet _ _ _ _ _ _ _; rw [hw6]; exact hO'.stable (fun k hk => Below.heap_setCell _ _ _ _ (fun e => hn6 (by have e' : k = bo := e; exact e' ▸ hk)))
 have HB6 : Hid (Box3 w6 bo (.slice E1 a.ends.length e1) (.slice V mV cV) (.slice V5 mV5 cV5)) := by show Box3 _ _ _ _ _; rw [hw6]; exact hB5.put2
 have HN6 := Lib.hid hn6
 have Hs6 : Hid (Since wa w6) := by
  show Below _ _ _
  rw [hw6]
  refine Below.setCell (Below.trans Hs4.out (hon5.below _ Hs4.out.below.size (fun j hj => ?_))) Hbb.out.1 _
  have hj2 : j ∈ S3' := by rw [Hi3.out.2]; exact hj
  exact (HO4.out.range j (by rw [HS3.out]; exact List.mem_append_right _ (List.mem_append_right _ hj2))).1
 have Hs06 := Lib.hid (Hsa.out.after Hs6.out)
 clear hw6 hO' hS' hn6 hB5 ho5 hon5 hT5 k0 k1 k2 f0 f1 f2 b2 p1 p2 q1 q2
 have b0 := q0 w6 Hs06.out
 have hs6 := Hs6.out
 go_wp2
 clear b0
 obtain ⟨W6, rfl⟩ : ∃ z, z = w6 := ⟨_, rfl⟩
 go_loopw [28] (fun i wr => ∃ (k : Nat) (v : Value) (S : List Nat), k ≤ b.ends.length ∧ i = .int .i64 k ∧ OwnNet wr wa.heap.size v (.slice V mV cV) (.slice V5 mV5 cV5) ⟨a.ends ++ (b.ends.take k).map (List.map (shiftE a.ends.length)), a.ids ++ b.ids, a.inputs ++ b.inputs⟩ S ∧ bo ∉ S ∧ Box3 wr bo v (.slice V mV cV) (.slice V5 mV5 cV5) ∧ Since wa wr) (fun i _ => b.ends.length - (intOf i).toNat)
 case atStart => exact ⟨0, _, S6, Nat.zero_le _, rfl, by have := HO6.out; simpa using this, HN6.out, HB6.out, Hs6.out⟩
 case round =>
  obtain ⟨k, v, S7, hk, rfl, hon, hnb, hbx, hsr⟩ := hrel
  obtain ⟨AV, mAV, cAV, rfl⟩ : ∃ A m c, v = .slice A m c := by obtain ⟨A, c, hv, -⟩ := hon.read.1; exact ⟨A, _, c, hv⟩
  have Hon := Lib.hid hon
  have Hnb := Lib.hid hnb
  have Hbx := Lib.hid hbx
  have Hsr := Lib.hid hsr
  have hs0r := Hsa.out.after hsr
  have Hs0r := Lib.hid hs0r
  clear hon hnb hbx hsr hs6
  obtain ⟨wo, rfl⟩ : ∃ z, z = wr := ⟨_, rfl⟩
  by_cases hlt : k < b.ends.length
  ·obtain ⟨es, hes⟩ := getx b.ends k hlt
   obtain ⟨g0, o0, cr, ur, hA1', -, hc1, hE1⟩ := row_at (HB.out w0 (since_refl _)).es hes
   cases hA1'
   obtain ⟨A9, y9, rfl, hz1, hz2, hA9⟩ := hE1
   unfold maxLen at hz2
   have r1 := have_cell hc1 wo hs0r
   have HA9 := Lib.hid hA9
   have Hes := Lib.hid hes
   have hel : es.length ≤ 1000 := Hsb.out.row _ _ hes
   have m1 : IntKind.i64.wrap ((k : Int) + 1) = (k : Int) + 1 := wr64 _ (by omega) (by have h1 := Hsb.out.ends; omega)
   clear hA9 hc1 hes hs0r
   go_upto_region 9 with (fail)
   clear r1
   go_loopw [8, 34] (fun u i wr => ∃ (j : Nat) (T : List Nat), j ≤ es.length ∧ i = .int .i64 j ∧ OwnE wr wo.heap.size u ((es.take j).map (shiftE a.ends.length)) T ∧ Since wo wr) (fun _ i _ => es.length - (intOf i).toNat)
   case atStart => exact ⟨0, [], Nat.zero_le _, rfl, ownE_nil _ _, since_refl _⟩
   case round =>
    obtain ⟨j, T, hj, rfl, hoe, hsq⟩ := hrel
    obtain ⟨AU, mU, cU, rfl⟩ := lawE.one hoe
    have Hoe := Lib.hid hoe
    have Hsq := Lib.hid hsq
    clear hoe
    by_cases hjl : j < es.length
    ·obtain ⟨e, he⟩ := getx es j hjl
     obtain ⟨x, y, fs, rfl, hfs, hyl⟩ := Hwf.out k es Hes.out e (List.mem_of_getElem? he)
     obtain ⟨g1, o1, rfl, t1, t2⟩ := HA9.out j _ he
     have hs0q := Hs0r.out.after Hsq.out
     have t1' := have_cell t1 wr hs0q
     have t2' := have_cell t2 wr hs0q
     have hxl : x < b.ends.length := lt_of_get hfs
     have m2 : IntKind.i64.wrap ((x : Int) + (a.ends.length : Int)) = (x : Int) + (a.ends.length : Int) := wr64 _ (by omega) (by have h1 := Hsm.out.ends; have h2 := Hsb.out.ends; omega)
     have m3 : IntKind.i64.wrap ((j : Int) + 1) = (j : Int) + 1 := wr64 _ (by omega) (by omega)
     obtain ⟨w8, hw8⟩ : ∃ z, z = wr.alloc (.cells #[.int .i64 (x : Int), .int .i64 (y : Int)] 83) := ⟨_, rfl⟩
     obtain ⟨eb, heb⟩ : ∃ z, z = wr.heap.size := ⟨_, rfl⟩
     have h8 : Since wr w8 := by rw [hw8]; exact since_alloc _ (since_refl _)
     have v1 : w8.cell? ⟨eb, 0, none⟩ = some (.int .i64 (x : Int)) := by rw [hw8, heb]; simp
     have v2 : w8.cell? ⟨eb, 1, none⟩ = some (.int .i64 (y : Int)) := by rw [hw8, heb]; simp
     have v3 := p0 w8 (hs0q.after h8)
     have Hw8 := Lib.hid hw8
     have Heb := Lib.hid heb
     have Hs8 : Hid (Since wo w8) := Hsq.out.after h8
     have Ho8 : Hid (OwnE w8 wo.heap.size (.slice AU mU cU) ((es.take j).map (shiftE a.ends.length)) T) := lawE.keep Hoe.out h8.below
     have Hll : Hid (((es.take j).map (shiftE a.ends.length)).length + 1 ≤ 1000000) := by show _ ≤ _; rw [List.length_map, List.length_take]; omega
     have Hsn : Hid ((es.take (j + 1)).map (shiftE a.ends.length) = (es.take j).map (shiftE a.ends.length) ++ [((x : Int) + (a.ends.length : Int), (y : Int))]) := by show _ = _; rw [take_snoc he, List.map_append]; rfl
     clear hw8 heb h8 hs0q t1 t2 he hfs hsq
     go_upto_region 11 with (fail)
     rw [← Hw8.out, ← Heb.out]
     clear t1' t2'
     go_upto_region 12 with (at_builtin; refine app_endH (base := wo.heap.size) (v := .slice AU mU cU) (xs := (es.take j).map (shiftE a.ends.length)) (T := T) rfl _ _ rfl rfl (lawE.keep Ho8.out (below_alloc _ _)) w8.heap.size ((x : Int) + (a.ends.length : Int), (y : Int)) rfl (by simp) (by simp) Hll.out (by have := Hs8.out.below.size; simp; omega) ?_; intro g9 cc9 w9 ho9 hg9 hl9)
     have Ho9 := Lib.hid ho9
     have Hs9 : Hid (Since wo w9) := Below.grown (since_alloc _ Hs8.out) hg9 (by have := Hs8.out.below.size; simp; omega) (fun q hq => (lawE.range Ho8.out q (by rw [Ho8.out.2, hq]; simp)).1)
     clear ho9 hg9 hl9 v1 v2 v3
     go_wp2
     go_roundw
     case rel => exact ⟨j + 1, [g9], by omega, by first | rfl | go_num, by rw [Hsn.out]; have h9 := Ho9.out; rw [show ((es.take j).map (shiftE a.ends.length)).length = j by rw [List.length_map, List.length_take]; omega] at h9; simpa using h9, Hs9.out⟩
     case measure => simp [intOf]; omega
    ·obtain rfl : j = es.length := by omega
     have hbr : Box3 wr bo (.slice AV mAV cAV) (.slice V mV cV) (.slice V5 mV5 cV5) := Hbx.out.below Hsq.out.below Hbx.out.lt
     have hrow : Hid (OwnE wr wo.heap.size (.slice AU mU cU) (es.map (shiftE a.ends.length)) T) := by have h9 := Hoe.out; rw [List.take_length] at h9; exact h9
     have hvq : Hid (∀ q, (Value.slice AV mAV cAV).ownBlock = some q → wa.heap.size ≤ q) := fun q hq => by
      obtain ⟨S1, S2, S3, h1, -, -, h4, -⟩ := id Hon.out
      obtain ⟨vs, Ss, -, -, -, e4, -⟩ := id h1
      exact (Hon.out.range q (by rw [h4, e4, hq]; simp)).1
     have hdis : Hid (∀ j ∈ T, j ∉ S7) := fun j hj hS => by have h1 := (lawE.range Hoe.out j hj).1; have h2 := (Hon.out.range j hS).2; omega
     have hll : Hid ((a.ends ++ (b.ends.take k).map (List.map (shiftE a.ends.length))).length + 1 ≤ 1000000) := by show _ ≤ _; rw [List.length_append, List.length_map, List.length_take]; have h1 := Hsm.out.ends; have h2 := Hsb.out.ends; omega
     have hba : Hid (wa.heap.size ≤ wo.heap.size) := Hsr.out.below.size
     have hwq : Hid (Since wa wr) := Hsr.out.after Hsq.out
     have Hbr := Lib.hid hbr
     obtain ⟨k0, k1, k2, f0, f1, f2⟩ := hbr.cells
     clear hbr hsq
     go_upto_region 14 with (at_builtin; refine app_rowN (wT := wa) (base := wa.heap.size) (v := .slice AV mAV cAV) (u := .slice AU mU cU) (T := T) (es := es.map (shiftE a.ends.length)) rfl _ _ rfl rfl ((Hon.out.keep Hsq.out.below).keep (below_alloc _ _)) wr.heap.size rfl (by simp) (lawE.mono (lawE.keep hrow.out (below_alloc _ _)) hba.out) hdis.out hll.out (since_alloc _ hwq.out) (by have := hwq.out.below.size; simp; omega) hvq.out ?_; intro v8 w8 S8 hv8 hn8 hS8 hon8 hs8; obtain ⟨A8, m8, c8, rfl⟩ : ∃ A m c, v8 = Value.slice A m c := (by obtain ⟨A, c, hv, -⟩ := hn8.read.1; exact ⟨A, _, c, hv⟩); have hb8 : Box3 w8 bo (.slice AV mAV cAV) (.slice V mV cV) (.slice V5 mV5 cV5) := ((Hbr.out.alloc _).blk (hon8.block bo (by have := Hbr.out.lt; simp; omega) Hnb.out)); clear k0 k1 k2 f0 f1 f2; obtain ⟨k0, k1, k2, f0, f1, f2⟩ := hb8.cells)
     have hbo8 : bo ∉ S8 := fun hm => by
      rcases hS8 bo hm with h | h | h
      ·exact Hnb.out h
      ·have h1 := (lawE.range Hoe.out bo h).1; have h2 := Hbx.out.lt; omega
      ·have h2 := Hbr.out.lt; simp at h; omega
     have hlist : a.ends ++ (b.ends.take (k + 1)).map (List.map (shiftE a.ends.length)) = (a.ends ++ (b.ends.take k).map (List.map (shiftE a.ends.length))) ++ [es.map (shiftE a.ends.length)] := by
      rw [take_snoc Hes.out, List.map_append, List.append_assoc]; rfl
     have Hl9 := Lib.hid hlist
     have Hn9 := Lib.hid (hn8.stable (w' := w8.setCell ⟨bo, 0, none⟩ (.slice A8 m8 c8)) (fun q hq => Below.heap_setCell _ _ _ _ (fun e => hbo8 (by have e' : q = bo := e; exact e' ▸ hq))))
     have Hb9 := Lib.hid (hb8.put0 (u := .slice A8 m8 c8))
     have Hs9 := Lib.hid (Below.setCell hs8 (p := ⟨bo, 0, none⟩) Hbb.out.1 (.slice A8 m8 c8))
     have Hbo8 := Lib.hid hbo8
     clear hbo8 hlist hn8 hb8 hs8 hon8 hS8 hv8 k0 k1 k2 f0 f1 f2
     go_wp2
     go_roundw
     case rel => exact ⟨k + 1, _, S8, by omega, by first | rfl | go_num, by rw [Hl9.out]; exact Hn9.out, Hbo8.out, Hb9.out, Hs9.out⟩
     case measure => simp [intOf]; omega
  ·obtain rfl : k = b.ends.length := by omega
   have hrw := HRb.out wo Hsr.out
   obtain ⟨k0, k1, k2, -, -, -⟩ := Hbx.out.cells
   obtain ⟨e0, e1', e2, f0, f1, f2⟩ := hrw.box.cells
   clear hrw
   go_wp2
   refine bodyPost_ret (v := .agg #[.slice AV mAV cAV, .slice V mV cV, .slice V5 mV5 cV5]) (by simp [results, Tryz.results192, go_sem, *]) rfl ?_
   have hza := Hza.out
   have h9 := Hon.out
   rw [List.take_length] at h9
   refine ⟨_, _, _, S7, rfl, (h9.stable (fun j hj => ?_)).mono (by omega), ?_⟩
   ·have hj1 := (h9.range j hj).1
    rw [Below.heap_setCell _ _ _ j (by simp; omega), Below.heap_setCell _ _ _ j (by simp; omega), Below.heap_setCell _ _ _ j (by simp; omega)]
   ·have hk : Below w.heap.size w wo := Below.trans Hs0.out.below (Hs0r.out.below.mono Hs0.out.below.size)
    exact ((hk.setCell (by simp; omega) _).setCell (by simp; omega) _).setCell (by simp; omega) _
end Go.Proofs.YtgmdpppljkmabaaGreat
namespace Go.Proofs.YtgmdpppljkmabaaGreat
open Go Go.RowKit
/-! net -/
theorem Gd.joinLow4 {R M : Nat} {n : Net} {v u : Nat} (h : Gd R M n) (hv : v < n.ends.length) (hu : u < n.ends.length) (h1 : (rowN n v).length ≤ 4) (h2 : (rowN n u).length ≤ 4) (hR : 6 ≤ R) : Gd R M (joinN n v u) := by
 refine ⟨by rw [join_len]; exact h.ends, fun k es hk => ?_, h.ids, by rw [join_len]; exact h.inputs, wf_join h.wf hv hu⟩
 have h3 := row_of hk
 have hkl : k < n.ends.length := by have := lt_of_get hk; rwa [join_len] at this
 rw [← h3, row_join hv hu]
 have h4 := h.row k _ (rowN_get hkl)
 by_cases a : k = u
 ·subst a
  by_cases b : k = v
  ·subst b; rw [if_pos rfl]; omega
  ·rw [if_pos rfl, if_neg b]; omega
 ·rw [if_neg a]
  by_cases b : k = v
  ·subst b; rw [if_pos rfl]; omega
  ·rw [if_neg b]; omega
theorem Gd.stubLow4 {R M : Nat} {n : Net} {v : Nat} (h : Gd R M n) (hv : v < n.ends.length) (h1 : (rowN n v).length ≤ 4) (hR : 6 ≤ R) : Gd R M (stubN n v) := by
 refine ⟨by rw [stub_len]; exact h.ends, fun k es hk => ?_, h.ids, by rw [stub_len]; exact h.inputs, wf_stub h.wf hv⟩
 have h3 := row_of hk
 have hkl : k < n.ends.length := by have := lt_of_get hk; rwa [stub_len] at this
 rw [← h3, row_stub hv]
 have h4 := h.row k _ (rowN_get hkl)
 by_cases b : k = v
 ·subst b; rw [if_pos rfl]; omega
 ·rw [if_neg b]; omega
set_option maxRecDepth 100000 in
set_option maxHeartbeats 2000000 in
theorem net_p (cb : Nat) (A : Option Addr) (L c P most M : Nat) (w : World) (hc : CurP w cb A L c P) (hP : P ≤ 4000000000000000000) (hmo : 1 ≤ most) (hmo2 : most ≤ M) (hM : M ≤ 38) :
  Calls Tryz.prog 127 #[.pointer (some ⟨cb, 0, none⟩), .int .i64 most] w (NewD cb w.heap.size A L c (P + 200000000000000000) w (TN 100 (M + 2))) := by
 have hcb := hc.lt
 obtain ⟨B, hBd⟩ : ∃ z, z = w.heap.size + 1 := ⟨_, rfl⟩
 obtain ⟨w0, hw0⟩ : ∃ z, z = w.alloc (.cells #[.slice none 0 0, .slice none 0 0, .slice none 0 0] 27) := ⟨_, rfl⟩
 have hs0 : Since w w0 := by rw [hw0]; exact since_alloc _ (since_refl _)
 have hz0 : w0.heap.size = B := by rw [hw0, hBd]; simp
 have hrb : BoxN w0 w.heap.size (.slice none 0 0) (.slice none 0 0) (.slice none 0 0) := by
  rw [hw0]
  show (w.heap.push _)[w.heap.size]? = _
  rw [Array.getElem?_push_size]
 have Hrb := Lib.hid hrb
 have Hs0 := Lib.hid hs0
 have Hw0 := Lib.hid hw0
 have HBd := Lib.hid hBd
 have Hz0 := Lib.hid hz0
 have Hc0 := Lib.hid (hc.since hs0)
 clear hrb hs0 hw0 hc hBd hz0
 go_enter Tryz.func127, Tryz.ntmps127
 go_upto_region 1 with (fail)
 rw [← Hw0.out]
 go_wp2_with fail
 refine (pick_p cb A L c P 6 w0 Hc0.out (by omega) (by omega)).mono ?_
 rintro e w1 ⟨x, rfl, hx, hcu1, hC1⟩
 have Hcu1 := Lib.hid hcu1
 have HC1 : Hid (CB cb B w0 w1) := by show CB _ _ _ _; rw [← Hz0.out]; exact hC1
 have hB1 : B ≤ w1.heap.size := by rw [← Hz0.out]; exact hC1.size
 have hcB : cb < B := by have := HBd.out; omega
 have hx6 : x < 6 := by omega
 clear hcu1 hC1 hx
 have hrw1 := HC1.out.blkN Hrb.out (by have := HBd.out; omega) (by omega)
 have Hrw1 := Lib.hid hrw1
 clear hrw1
 rcases (show x = 0 ∨ x = 1 ∨ x = 2 ∨ x = 3 ∨ x = 4 ∨ x = 5 by omega) with rfl | rfl | rfl | rfl | rfl | rfl
 ·go_wp2_with fail
  refine (ring_p cb A L c (P + 2) most M w1 Hcu1.out (by omega) hmo hmo2 (by omega)).mono ?_
  rintro e w6 ⟨ve6, vi6, vn6, N6, S6, rfl, ho6, ⟨hg6, hn6⟩, hcu6, hC6⟩
  obtain ⟨D0, d0, rfl, -, -, -⟩ := id ho6.read.1
  obtain ⟨D1, d1, rfl, -, -, -⟩ := id ho6.read.2.1
  obtain ⟨D2, d2, rfl, -, -, -⟩ := id ho6.read.2.2
  have hfar : CB cb B w0 w6 := HC1.out.trans (hC6.mono hB1)
  have hrw := hfar.blkN Hrb.out (by have := HBd.out; omega) (by omega)
  obtain ⟨e0, e1, e2, f0, f1, f2⟩ := hrw.box.cells
  have hown := ho6.mono hB1
  rw [HBd.out] at hown hfar
  have Hret := Lib.hid (ret_net Hs0.out hown hcu6 hfar hcb)
  have Hg6 := Lib.hid hg6
  have Hn6 := Lib.hid hn6
  clear hfar hrw hown hg6 hcu6 hC6 ho6 hn6
  go_wp2
  refine bodyPost_ret (v := .agg #[.slice D0 N6.ends.length d0, .slice D1 N6.ids.length d1, .slice D2 N6.inputs.length d2]) (by simp [results, Tryz.results127, go_sem, *]) rfl ?_
  obtain ⟨r1, r2, r3⟩ := Hret.out
  exact ⟨_, _, _, N6, S6, rfl, r1, ⟨Hg6.out.mono (Nat.le_refl _) (by omega), Hn6.out⟩, r2.mono (by omega), r3⟩
 ·go_wp2_with fail
  refine (tree_p cb A L c (P + 2) most M w1 Hcu1.out (by omega) hmo hmo2 (by omega)).mono ?_
  rintro e w6 ⟨ve6, vi6, vn6, N6, S6, rfl, ho6, ⟨hg6, hn6⟩, hcu6, hC6⟩
  obtain ⟨D0, d0, rfl, -, -, -⟩ := id ho6.read.1
  obtain ⟨D1, d1, rfl, -, -, -⟩ := id ho6.read.2.1
  obtain ⟨D2, d2, rfl, -, -, -⟩ := id ho6.read.2.2
  have hfar : CB cb B w0 w6 := HC1.out.trans (hC6.mono hB1)
  have hrw := hfar.blkN Hrb.out (by have := HBd.out; omega) (by omega)
  obtain ⟨e0, e1, e2, f0, f1, f2⟩ := hrw.box.cells
  have hown := ho6.mono hB1
  rw [HBd.out] at hown hfar
  have Hret := Lib.hid (ret_net Hs0.out hown hcu6 hfar hcb)
  have Hg6 := Lib.hid hg6
  have Hn6 := Lib.hid hn6
  clear hfar hrw hown hg6 hcu6 hC6 ho6 hn6
  go_wp2
  refine bodyPost_ret (v := .agg #[.slice D0 N6.ends.length d0, .slice D1 N6.ids.length d1, .slice D2 N6.inputs.length d2]) (by simp [results, Tryz.results127, go_sem, *]) rfl ?_
  obtain ⟨r1, r2, r3⟩ := Hret.out
  exact ⟨_, _, _, N6, S6, rfl, r1, ⟨Hg6.out.mono (Nat.le_refl _) (by omega), Hn6.out⟩, r2.mono (by omega), r3⟩
 ·go_wp2_with fail
  refine (simple_p cb A L c (P + 2) most M w1 Hcu1.out (by omega) hmo hmo2 (by omega)).mono ?_
  rintro e w6 ⟨ve6, vi6, vn6, N6, S6, rfl, ho6, ⟨hg6, hn6⟩, hcu6, hC6⟩
  obtain ⟨D0, d0, rfl, -, -, -⟩ := id ho6.read.1
  obtain ⟨D1, d1, rfl, -, -, -⟩ := id ho6.read.2.1
  obtain ⟨D2, d2, rfl, -, -, -⟩ := id ho6.read.2.2
  have hfar : CB cb B w0 w6 := HC1.out.trans (hC6.mono hB1)
  have hrw := hfar.blkN Hrb.out (by have := HBd.out; omega) (by omega)
  obtain ⟨e0, e1, e2, f0, f1, f2⟩ := hrw.box.cells
  have hown := ho6.mono hB1
  rw [HBd.out] at hown hfar
  have Hret := Lib.hid (ret_net Hs0.out hown hcu6 hfar hcb)
  have Hg6 := Lib.hid hg6
  have Hn6 := Lib.hid hn6
  clear hfar hrw hown hg6 hcu6 hC6 ho6 hn6
  go_wp2
  refine bodyPost_ret (v := .agg #[.slice D0 N6.ends.length d0, .slice D1 N6.ids.length d1, .slice D2 N6.inputs.length d2]) (by simp [results, Tryz.results127, go_sem, *]) rfl ?_
  obtain ⟨r1, r2, r3⟩ := Hret.out
  exact ⟨_, _, _, N6, S6, rfl, r1, ⟨Hg6.out.mono (Nat.le_refl _) (by omega), Hn6.out⟩, r2.mono (by omega), r3⟩
 ·go_wp2_with fail
  refine (simple_p cb A L c (P + 2) most M w1 Hcu1.out (by omega) hmo hmo2 (by omega)).mono ?_
  rintro e w6 ⟨ve6, vi6, vn6, N6, S6, rfl, ho6, ⟨hg6, hn6⟩, hcu6, hC6⟩
  obtain ⟨D0, d0, rfl, -, -, -⟩ := id ho6.read.1
  obtain ⟨D1, d1, rfl, -, -, -⟩ := id ho6.read.2.1
  obtain ⟨D2, d2, rfl, -, -, -⟩ := id ho6.read.2.2
  have hfar : CB cb B w0 w6 := HC1.out.trans (hC6.mono hB1)
  have hrw := hfar.blkN Hrb.out (by have := HBd.out; omega) (by omega)
  obtain ⟨e0, e1, e2, f0, f1, f2⟩ := hrw.box.cells
  have hown := ho6.mono hB1
  rw [HBd.out] at hown hfar
  have Hret := Lib.hid (ret_net Hs0.out hown hcu6 hfar hcb)
  have Hg6 := Lib.hid hg6
  have Hn6 := Lib.hid hn6
  clear hfar hrw hown hg6 hcu6 hC6 ho6 hn6
  go_wp2
  refine bodyPost_ret (v := .agg #[.slice D0 N6.ends.length d0, .slice D1 N6.ids.length d1, .slice D2 N6.inputs.length d2]) (by simp [results, Tryz.results127, go_sem, *]) rfl ?_
  obtain ⟨r1, r2, r3⟩ := Hret.out
  exact ⟨_, _, _, N6, S6, rfl, r1, ⟨Hg6.out.mono (Nat.le_refl _) (by omega), Hn6.out⟩, r2.mono (by omega), r3⟩
 ·obtain ⟨hf, hhd⟩ : ∃ z : Nat, z = most / 2 := ⟨_, rfl⟩
  obtain ⟨h1, hh1⟩ : ∃ z : Nat, z = hf + 1 := ⟨_, rfl⟩
  have d1 : (most : Int).tdiv 2 = (hf : Int) := by rw [hhd, Int.tdiv_eq_ediv_of_nonneg (by omega)]; simp
  have d2 : (most : Int) / 2 = (hf : Int) := by omega
  have d3 : IntKind.i64.wrap (hf : Int) = (hf : Int) := wr64 _ (by omega) (by omega)
  have d4 : IntKind.i64.wrap ((hf : Int) + 1) = (h1 : Int) := by rw [wr64 _ (by omega) (by omega)]; omega
  have hb1 : 1 ≤ h1 ∧ 2 * h1 ≤ M + 2 := by omega
  clear hhd hh1
  go_wp2_with fail
  refine (simple_p cb A L c (P + 2) h1 h1 w1 Hcu1.out (by omega) hb1.1 (Nat.le_refl _) (by omega)).mono ?_
  rintro e w6 ⟨ve6, vi6, vn6, N6, S6, rfl, ho6, ⟨hg6, hn6⟩, hcu6, hC6⟩
  obtain ⟨D0, d0, rfl, -, -, -⟩ := id ho6.read.1
  obtain ⟨D1, d1', rfl, -, -, -⟩ := id ho6.read.2.1
  obtain ⟨D2, d2', rfl, -, -, -⟩ := id ho6.read.2.2
  obtain ⟨w7, hw7⟩ : ∃ z, z = w6.alloc (.cells #[.slice D0 N6.ends.length d0, .slice D1 N6.ids.length d1', .slice D2 N6.inputs.length d2'] 27) := ⟨_, rfl⟩
  obtain ⟨pb, hpb⟩ : ∃ z, z = w6.heap.size := ⟨_, rfl⟩
  have h67 : Since w6 w7 := by rw [hw7]; exact since_alloc _ (since_refl _)
  have hbx : Box3 w7 pb (.slice D0 N6.ends.length d0) (.slice D1 N6.ids.length d1') (.slice D2 N6.inputs.length d2') := by rw [hw7, hpb]; exact Box3.new _ _ _ _ _
  have HO7 := Lib.hid ((ho6.mono hB1).keep h67.below)
  have HC7 : Hid (CB cb B w0 w7) := (HC1.out.trans (hC6.mono hB1)).trans ((CB.of h67).mono (Nat.le_trans hB1 hC6.size))
  have Hcu7 := Lib.hid (hcu6.since h67)
  have Hg6 := Lib.hid hg6
  have Hn6 := Lib.hid hn6
  have hpc : pb ≠ cb := by have := hC6.size; omega
  have HB7 : Hid (B ≤ w7.heap.size) := Nat.le_trans (Nat.le_trans hB1 hC6.size) h67.below.size
  have Hbx := Lib.hid hbx
  have Hw7 := Lib.hid hw7
  have Hpb := Lib.hid hpb
  obtain ⟨k0, k1, k2, -, -, -⟩ := hbx.cells
  have HS0 := Lib.hid (And.intro k0 (And.intro k1 k2))
  clear ho6 hg6 hn6 hcu6 hC6 hw7 hpb h67 hbx k0 k1 k2
  go_upto_region 11 with (fail)
  rw [← Hw7.out, ← Hpb.out]
  refine wp_region_chainS (fun W => W.cell? ⟨pb, 0, none⟩ = some (.slice D0 N6.ends.length d0) ∧ W.cell? ⟨pb, 1, none⟩ = some (.slice D1 N6.ids.length d1') ∧ W.cell? ⟨pb, 2, none⟩ = some (.slice D2 N6.inputs.length d2')) 7 [false, false, false, false, false, true, true] (by kernel_rfl) (by kernel_rfl) (show (World.drew w7).cell? ⟨pb, 0, none⟩ = some (.slice D0 N6.ends.length d0) ∧ (World.drew w7).cell? ⟨pb, 1, none⟩ = some (.slice D1 N6.ids.length d1') ∧ (World.drew w7).cell? ⟨pb, 2, none⟩ = some (.slice D2 N6.inputs.length d2') from HS0.out) ?_
  simp only [selF, selT, List.take_succ_cons, List.take_zero, List.drop_succ_cons, List.drop_zero]
  refine pflowS_val (v := ?_) rfl ?_ ?_; rotate_left; (intro W hW; (obtain ⟨k0, k1, k2⟩ := hW); go_simp; with_reducible rfl)
  simp only [zA]
  refine pflowS_val (v := ?_) rfl ?_ ?_; rotate_left; (intro W hW; (obtain ⟨k0, k1, k2⟩ := hW); go_simp; with_reducible rfl)
  simp only [zA]
  refine pflowS_val (v := ?_) rfl ?_ ?_; rotate_left; (intro W hW; (obtain ⟨k0, k1, k2⟩ := hW); go_simp; with_reducible rfl)
  simp only [zA]
  refine pflowS_val (v := ?_) rfl ?_ ?_; rotate_left; (intro W hW; (obtain ⟨k0, k1, k2⟩ := hW); go_simp; with_reducible rfl)
  simp only [zA]
  refine pflowS_val (v := ?_) rfl ?_ ?_; rotate_left; (intro W hW; (obtain ⟨k0, k1, k2⟩ := hW); go_simp; with_reducible rfl)
  simp only [zA]
  obtain ⟨W, hWd⟩ : ∃ W, W = World.drew w7 := ⟨_, rfl⟩
  rw [← hWd]
  have hW := (show (World.drew w7).cell? ⟨pb, 0, none⟩ = some (.slice D0 N6.ends.length d0) ∧ (World.drew w7).cell? ⟨pb, 1, none⟩ = some (.slice D1 N6.ids.length d1') ∧ (World.drew w7).cell? ⟨pb, 2, none⟩ = some (.slice D2 N6.inputs.length d2') from HS0.out)
  rw [← hWd] at hW
  have HWd := Lib.hid hWd
  clear hWd
  refine Or.inl ⟨rfl, ?_⟩
  go_simp
  (with_reducible refine (ring_p cb A L c _ h1 h1 W (by rw [HWd.out]; exact Hcu7.out.since (since_drew (since_refl _))) (by omega) hb1.1 (Nat.le_refl _) (by omega)).mono ?_)
  rintro e W' ⟨ve8, vi8, vn8, N8, S8, rfl, ho8, ⟨hT8, -⟩, hcu8, hC8⟩
  refine ⟨_, rfl, And.intro (seen_cell hW.1 hpc _ hC8) (And.intro (seen_cell hW.2.1 hpc _ hC8) (seen_cell hW.2.2 hpc _ hC8)), ?_⟩
  replace hW := And.intro (seen_cell hW.1 hpc _ hC8) (And.intro (seen_cell hW.2.1 hpc _ hC8) (seen_cell hW.2.2 hpc _ hC8))
  have hS1 : Since w7 W := (by rw [HWd.out]; exact since_drew (since_refl _))
  have HC8 := Lib.hid (((Seen.refl cb w7).after hS1).trans hC8)
  have Ho8 := Lib.hid ho8
  have HT8 := Lib.hid hT8
  have Hcu8 := Lib.hid hcu8
  clear ho8 hT8 hcu8 hC8 hS1
  obtain ⟨wp, rfl⟩ : ∃ z, z = W' := ⟨_, rfl⟩
  (try simp only [zA])
  refine Or.inl ⟨rfl, ?_⟩
  go_simp
  (with_reducible refine (neUnion_any _ _ _ _ _ _ N6 N8 _ (HO7.out.seen HC8.out hcB).read Ho8.out.read (Hg6.out.small (by omega) (by omega)) (HT8.out.small (by omega) (by omega)) HT8.out.wf).mono ?_)
  rintro e W' ⟨ve9, vi9, vn9, S9, rfl, ho9, hb9⟩
  refine ⟨_, rfl, And.intro (bc hb9 hW.1) (And.intro (bc hb9 hW.2.1) (bc hb9 hW.2.2)), ?_⟩
  replace hW := And.intro (bc hb9 hW.1) (And.intro (bc hb9 hW.2.1) (bc hb9 hW.2.2))
  skip
  (try simp only [zA])
  simp only [TFlow]
  obtain ⟨F0, t0, rfl, -, -, -⟩ := id ho9.read.1
  obtain ⟨F1, t1, rfl, -, -, -⟩ := id ho9.read.2.1
  obtain ⟨F2, t2, rfl, -, -, -⟩ := id ho9.read.2.2
  have hBp : B ≤ wp.heap.size := Nat.le_trans HB7.out HC8.out.size
  have hs9 : Since wp W' := hb9
  have hfar : CB cb B w0 W' := (HC7.out.trans (CB.mono HC8.out HB7.out)).trans ((CB.of hs9.below).mono hBp)
  have hrw := hfar.blkN Hrb.out (by have := HBd.out; omega) (by omega)
  obtain ⟨e0, e1, e2, f0, f1, f2⟩ := hrw.box.cells
  have hown := ho9.mono hBp
  rw [HBd.out] at hown hfar
  have Hret := Lib.hid (ret_net Hs0.out hown (Hcu8.out.since hs9) hfar hcb)
  have Hg9 := Lib.hid (Hg6.out.union HT8.out)
  have Hl9 : Hid (0 < (unionN N6 N8).ends.length) := by show _ < _; unfold unionN; rw [List.length_append]; have := Hn6.out; omega
  clear hfar hrw hown hs9 ho9 hb9 hBp hW
  go_wp2
  refine bodyPost_ret (v := .agg #[.slice F0 (unionN N6 N8).ends.length t0, .slice F1 (unionN N6 N8).ids.length t1, .slice F2 (unionN N6 N8).inputs.length t2]) (by simp [results, Tryz.results127, go_sem, *]) rfl ?_
  obtain ⟨r1, r2, r3⟩ := Hret.out
  exact ⟨_, _, _, unionN N6 N8, S9, rfl, r1, ⟨Hg9.out.mono (Nat.le_refl _) (by omega), Hl9.out⟩, r2.mono (by omega), r3⟩
 ·go_wp2_with fail
  refine (pick_p cb A L c (P + 2) most w1 Hcu1.out (by omega) (by omega)).mono ?_
  rintro e w2 ⟨x2, rfl, hx2, hcu2, hC2⟩
  obtain ⟨m, hm⟩ : ∃ m : Nat, m = x2 + 1 := ⟨_, rfl⟩
  have m1 : IntKind.i64.wrap (1 + (x2 : Int)) = (m : Int) := by rw [wr64 _ (by omega) (by omega)]; omega
  have hmM : m ≤ M := by omega
  have hm0 : 0 < m := by omega
  have Hcu2 := Lib.hid hcu2
  have HC2 : Hid (CB cb B w0 w2) := HC1.out.trans (hC2.mono hB1)
  have HB2 : Hid (B ≤ w2.heap.size) := Nat.le_trans hB1 hC2.size
  clear hcu2 hC2 hx2 hm
  go_wp2_with fail
  refine (neEmpty_any m (by omega) w2).mono ?_
  rintro e w3 ⟨ve0, vi0, vn0, S0, rfl, ho, hb3⟩
  obtain ⟨N0, hN0⟩ : ∃ z, z = emptyNet m := ⟨_, rfl⟩
  rw [← hN0] at ho
  have hNl : N0.ends.length = m := by rw [hN0]; simp [emptyNet]
  have hNg : Gd 100 M N0 := by rw [hN0]; exact (Gd.empty hmM).mono (by omega) (Nat.le_refl _)
  obtain ⟨A1, c1, rfl, -, hm1, -⟩ := id ho.read.1
  obtain ⟨AI, cI, rfl, -, -, -⟩ := id ho.read.2.1
  obtain ⟨AN, cN, rfl, -, -, -⟩ := id ho.read.2.2
  obtain ⟨w4, hw4⟩ : ∃ z, z = w3.alloc (.cells #[.slice A1 N0.ends.length c1, .slice AI N0.ids.length cI, .slice AN N0.inputs.length cN] 27) := ⟨_, rfl⟩
  obtain ⟨pb, hpb⟩ : ∃ z, z = w3.heap.size := ⟨_, rfl⟩
  have h34 : Since w3 w4 := by rw [hw4]; exact since_alloc _ (since_refl _)
  have hs3 : Since w2 w3 := hb3
  have hmb : Mb cb B pb A L c (P + 2 + 2) w0 w4 (.slice A1 N0.ends.length c1) (.slice AI N0.ids.length cI) (.slice AN N0.inputs.length cN) N0 S0 :=
   ⟨(ho.keep h34.below).mono HB2.out, by rw [hw4, hpb]; exact Box3.new _ _ _ _ _, fun hj => by have := (ho.range _ hj).2; omega, (Hcu2.out.since hs3).since h34, HC2.out.trans ((CB.of (hs3.after h34).below).mono HB2.out)⟩
  have Hmb := Lib.hid hmb
  have Hpb : Hid (B ≤ pb ∧ pb < w4.heap.size) := ⟨by rw [hpb]; exact Nat.le_trans HB2.out hs3.below.size, by rw [hw4, hpb]; simp⟩
  have Hw4 := Lib.hid hw4
  have Hpb2 := Lib.hid hpb
  have Hg0 := Lib.hid hNg
  have HNl0 := Lib.hid hNl
  have hbx := hmb.box.cells.1
  have hpc : pb ≠ cb := by have := Hpb.out; omega
  rw [hNl] at hbx
  obtain ⟨m2, hm2⟩ : ∃ m2 : Nat, m2 = 2 * m := ⟨_, rfl⟩
  have e2m : (2 : Int) * (m : Int) = (m2 : Int) := by omega
  have m20 : IntKind.i64.wrap (2 * (m : Int)) = (m2 : Int) := by rw [e2m]; exact wr64 _ (by omega) (by omega)
  have Hm2 := Lib.hid hm2
  clear hm2
  clear hmb hw4 hpb hNg hNl ho hb3 hs3 h34 hN0 e2m
  go_upto_region 13 with (fail)
  rw [← Hw4.out, ← Hpb2.out]
  go_wp2_with fail
  refine (pick_p cb A L c _ (m2 : Int) w4 Hmb.out.cur (by omega) (by have := Hm2.out; omega)).mono ?_
  rintro e w5 ⟨x5, rfl, hx5', hcu5, hC5⟩
  have hx5 : x5 ≤ 100 := by have := Hm2.out; omega
  have Hm5 := Lib.hid (Hmb.out.seen hC5 hcu5 hcB Hpb.out.1 (by have := Hpb.out; omega))
  have Hz5 : Hid (B ≤ w5.heap.size) := by show _ ≤ _; have := Hpb.out; have := hC5.size; omega
  clear hcu5 hC5 hbx hx5'
  go_upto_region 14 with (fail)
  obtain ⟨Q, hQ⟩ : ∃ z, z = P + 2 + 2 + 2 := ⟨_, rfl⟩
  have HQ : Hid (Q = P + 2 + 2 + 2) := hQ
  rw [← hQ] at Hm5
  clear hQ
  go_loopw [7] (fun i wr => ∃ (k : Nat) (ve vi vn : Value) (N : Net) (S : List Nat), k ≤ 100 ∧ i = .int .i64 k ∧ Mb cb B pb A L c (Q + 6 * (100 - k)) w0 wr ve vi vn N S ∧ Gd 100 M N ∧ N.ends.length = m ∧ B ≤ wr.heap.size) (fun i _ => (intOf i).toNat)
  case atStart => exact ⟨x5, _, _, _, N0, S0, hx5, rfl, ⟨Hm5.out.own, Hm5.out.box, Hm5.out.nb, Hm5.out.cur.mono (by omega), Hm5.out.far⟩, Hg0.out, HNl0.out, Hz5.out⟩
  case round =>
   obtain ⟨k, ve, vi, vn, N, S2, hk, rfl, hm, hgd, hNl, hsz⟩ := hrel
   obtain ⟨A1', c1', rfl, -, hm1', -⟩ := id hm.own.read.1
   obtain ⟨AI', cI', rfl, -, -, -⟩ := id hm.own.read.2.1
   obtain ⟨AN', cN', rfl, -, -, -⟩ := id hm.own.read.2.2
   obtain ⟨g, rfl, -⟩ := hm.own.head (by omega)
   have Hm := Lib.hid hm
   have Hgd := Lib.hid hgd
   have HNl := Lib.hid hNl
   have Hsz := Lib.hid hsz
   clear hm hgd hNl hsz
   by_cases hlt : 0 < k
   ·have e0 : ((0 : Int) < (k : Int)) = True := by simp; omega
    have m4 : IntKind.i64.wrap ((k : Int) - 1) = (k : Int) - 1 := wr64 _ (by omega) (by omega)
    have HS0 := Lib.hid (show wr.cell? ⟨pb, 0, none⟩ = some (.slice (some ⟨g, 0, none⟩) m c1') from by obtain ⟨a, -⟩ := Hm.out.box.cells; rw [HNl.out] at a; exact a)
    obtain ⟨wo, rfl⟩ : ∃ z, z = wr := ⟨_, rfl⟩
    go_upto_region 16 with (fail)
    refine wp_region_chainS (fun W => W.cell? ⟨pb, 0, none⟩ = some (.slice (some ⟨g, 0, none⟩) m c1')) 10 [false, false, false, false, true, false, false, false, false, true] (by kernel_rfl) (by kernel_rfl) (show (World.drew wo).cell? ⟨pb, 0, none⟩ = some (.slice (some ⟨g, 0, none⟩) m c1') from HS0.out) ?_
    simp only [selF, selT, List.take_succ_cons, List.take_zero, List.drop_succ_cons, List.drop_zero]
    refine pflowS_val (v := ?_) rfl ?_ ?_; rotate_left; (intro W hW; (have k0 := hW); go_simp; with_reducible rfl)
    simp only [zA]
    refine pflowS_val (v := ?_) rfl ?_ ?_; rotate_left; (intro W hW; (have k0 := hW); go_simp; with_reducible rfl)
    simp only [zA]
    refine pflowS_val (v := ?_) rfl ?_ ?_; rotate_left; (intro W hW; (have k0 := hW); go_simp; with_reducible rfl)
    simp only [zA]
    refine pflowS_val (v := ?_) rfl ?_ ?_; rotate_left; (intro W hW; (have k0 := hW); go_simp; with_reducible rfl)
    simp only [zA]
    refine pflowS_val (v := ?_) rfl ?_ ?_; rotate_left; (intro W hW; (have k0 := hW); go_simp; with_reducible rfl)
    simp only [zA]
    refine pflowS_val (v := ?_) rfl ?_ ?_; rotate_left; (intro W hW; (have k0 := hW); go_simp; with_reducible rfl)
    simp only [zA]
    refine pflowS_val (v := ?_) rfl ?_ ?_; rotate_left; (intro W hW; (have k0 := hW); go_simp; with_reducible rfl)
    simp only [zA]
    refine pflowS_val (v := ?_) rfl ?_ ?_; rotate_left; (intro W hW; (have k0 := hW); go_simp; with_reducible rfl)
    simp only [zA]
    obtain ⟨W, hWd⟩ : ∃ W, W = World.drew wo := ⟨_, rfl⟩
    rw [← hWd]
    have hW := (show (World.drew wo).cell? ⟨pb, 0, none⟩ = some (.slice (some ⟨g, 0, none⟩) m c1') from HS0.out)
    rw [← hWd] at hW
    have HWd := Lib.hid hWd
    clear hWd
    refine Or.inl ⟨rfl, ?_⟩
    go_simp
    (with_reducible refine (pick_p cb A L c (Q + 6 * (100 - k)) (m : Int) W (by rw [HWd.out]; exact Hm.out.cur.since (since_drew (since_refl _))) (by have := HQ.out; omega) (by omega)).mono ?_)
    rintro e W' ⟨a, rfl, ha, hcu, hC⟩
    refine ⟨_, rfl, seen_cell hW hpc _ hC, ?_⟩
    replace hW := seen_cell hW hpc _ hC
    have hS1 : Since wo W := (by rw [HWd.out]; exact since_drew (since_refl _))
    have HC3 := Lib.hid (((Seen.refl cb wo).after hS1).trans hC)
    have Hcu3 := Lib.hid hcu
    have Ha := Lib.hid ha
    clear hC hcu hS1 ha
    obtain ⟨wp, rfl⟩ : ∃ z, z = W' := ⟨_, rfl⟩
    (try simp only [zA])
    refine Or.inl ⟨rfl, ?_⟩
    go_simp
    (with_reducible refine (pick_p cb A L c (Q + 6 * (100 - k) + 2) (m : Int) _ Hcu3.out (by have := HQ.out; omega) (by omega)).mono ?_)
    rintro e W' ⟨b, rfl, hb, hcu, hC⟩
    refine ⟨_, rfl, seen_cell hW hpc _ hC, ?_⟩
    replace hW := seen_cell hW hpc _ hC
    have Hm5 := Lib.hid (Hm.out.seen (HC3.out.trans hC) hcu hcB Hpb.out.1 Hsz.out)
    have Hsz5 : Hid (B ≤ W'.heap.size) := Nat.le_trans Hsz.out (HC3.out.trans hC).size
    clear hC hcu
    (try simp only [zA])
    simp only [TFlow]
    have ham : a < m := by have := Ha.out; omega
    have hbm : b < m := by omega
    clear hb
    obtain ⟨w5, rfl⟩ : ∃ z, z = W' := ⟨_, rfl⟩
    have Hx0 := Lib.hid hW
    clear hW
    obtain ⟨xa, hxae⟩ : ∃ z, z = rowN N a := ⟨_, rfl⟩
    obtain ⟨xb, hxbe⟩ : ∃ z, z = rowN N b := ⟨_, rfl⟩
    have hxa := rowN_get (n := N) (v := a) (by have := HNl.out; omega)
    have hxb := rowN_get (n := N) (v := b) (by have := HNl.out; omega)
    rw [← hxae] at hxa
    rw [← hxbe] at hxb
    have hla : xa.length ≤ 100 := Hgd.out.row _ _ hxa
    have hlb : xb.length ≤ 100 := Hgd.out.row _ _ hxb
    obtain ⟨ua, Ta, hca, -, hRa, -, -, -⟩ := Hm5.out.own.rowCell hxa
    obtain ⟨AUa, cUa, rfl, -, -, -⟩ := id hRa.read
    obtain ⟨ub, Tb, hcb', -, hRb, -, -, -⟩ := Hm5.out.own.rowCell hxb
    obtain ⟨AUb, cUb, rfl, -, -, -⟩ := id hRb.read
    have Hxae := Lib.hid hxae
    have Hxbe := Lib.hid hxbe
    have pa := have_cell hca
    have pq := have_cell hcb'
    have p0 := have_cell Hx0.out
    have q0 := p0 w5 (since_refl _)
    have qa := pa w5 (since_refl _)
    have qb := pq w5 (since_refl _)
    clear hxae hxbe hxa hxb hRa hRb hca hcb' p0 pa pq
    by_cases h5 : xa.length ≤ 4
    ·have e5 : ((4 : Int) < (xa.length : Int)) = False := by simp; omega
     by_cases h6 : xb.length ≤ 4
     ·have e6 : ((4 : Int) < (xb.length : Int)) = False := by simp; omega
      go_upto_region 18 with (fail)
      clear q0 qa qb
      go_wp2_with fail
      refine (one_p cb A L c (Q + 6 * (100 - k) + 2 + 2) 5 w5 Hm5.out.cur (by have := HQ.out; omega) (by omega)).mono ?_
      rintro e w6 ⟨bb, rfl, hcu6, hC6⟩
      have Hm6 := Lib.hid (Hm5.out.seen hC6 hcu6 hcB Hpb.out.1 Hsz5.out)
      have Hsz6 : Hid (B ≤ w6.heap.size) := Nat.le_trans Hsz5.out hC6.size
      have hcells := Hm6.out.box.cells
      rw [HNl.out] at hcells
      obtain ⟨q0, q1, q2, -, -, -⟩ := hcells
      have HN6 : Hid (NetIn w6 (.slice (some ⟨g, 0, none⟩) m c1') (.slice AI' N.ids.length cI') (.slice AN' N.inputs.length cN') N) := by show NetIn _ _ _ _ _; have h9 := Hm6.out.own.read; rw [HNl.out] at h9; exact h9
      clear hcu6 hC6
      cases bb
      ·go_wp2_with fail
       refine (neJoin_any _ _ _ N a b w6 HN6.out (by rw [HNl.out]; exact ham) (by rw [HNl.out]; exact hbm) ((Hgd.out.mono (R' := 100) (M' := 40) (by omega) (by omega)).small (by omega) (by omega))).mono ?_
       rintro e w8 ⟨ve2, vi2, vn2, S3, rfl, ho2, hb2⟩
       have hs8 : Since w6 w8 := hb2
       obtain ⟨D0, d0, rfl, -, -, -⟩ := id ho2.read.1
       obtain ⟨D1, d1, rfl, -, -, -⟩ := id ho2.read.2.1
       obtain ⟨D2, d2, rfl, -, -, -⟩ := id ho2.read.2.2
       have hma := Hm6.out.assign (CB.of hs8) (Hm6.out.cur.since hs8) ho2 Hm6.out.box.lt hcB Hpb.out.1 Hsz6.out
       clear q0 q1 q2
       obtain ⟨k0, k1, k2, f0, f1, f2⟩ := (Hm6.out.box.below hs8 Hm6.out.box.lt).cells
       have Hma := Lib.hid hma
       have hsz4 : B ≤ (set3 w8 pb (.slice D0 (joinN N a b).ends.length d0) (.slice D1 (joinN N a b).ids.length d1) (.slice D2 (joinN N a b).inputs.length d2)).heap.size := by rw [set3_size]; exact Nat.le_trans Hsz6.out hs8.below.size
       have Hsz4 := Lib.hid hsz4
       have Hg2 := Lib.hid (Hgd.out.joinLow4 (v := a) (u := b) (by rw [HNl.out]; exact ham) (by rw [HNl.out]; exact hbm) (by rw [← Hxae.out]; exact h5) (by rw [← Hxbe.out]; exact h6) (by omega))
       have Hl2 := Lib.hid ((join_len N a b).trans HNl.out)
       clear hma ho2 hb2 hs8 hsz4
       go_wp2
       go_roundw
       case rel => exact ⟨k - 1, _, _, _, joinN N a b, S3, by omega, by rw [show ((k - 1 : Nat) : Int) = (k : Int) - 1 by omega], ⟨Hma.out.own, Hma.out.box, Hma.out.nb, Hma.out.cur.mono (by omega), Hma.out.far⟩, Hg2.out, Hl2.out, Hsz4.out⟩
       case measure => simp [intOf]; omega
      ·go_wp2_with fail
       refine (neStub_any _ _ _ N a w6 HN6.out (by rw [HNl.out]; exact ham) ((Hgd.out.mono (R' := 100) (M' := 40) (by omega) (by omega)).small (by omega) (by omega))).mono ?_
       rintro e w8 ⟨ve2, vi2, vn2, S3, rfl, ho2, hb2⟩
       have hs8 : Since w6 w8 := hb2
       obtain ⟨D0, d0, rfl, -, -, -⟩ := id ho2.read.1
       obtain ⟨D1, d1, rfl, -, -, -⟩ := id ho2.read.2.1
       obtain ⟨D2, d2, rfl, -, -, -⟩ := id ho2.read.2.2
       have hma := Hm6.out.assign (CB.of hs8) (Hm6.out.cur.since hs8) ho2 Hm6.out.box.lt hcB Hpb.out.1 Hsz6.out
       clear q0 q1 q2
       obtain ⟨k0, k1, k2, f0, f1, f2⟩ := (Hm6.out.box.below hs8 Hm6.out.box.lt).cells
       have Hma := Lib.hid hma
       have hsz4 : B ≤ (set3 w8 pb (.slice D0 (stubN N a).ends.length d0) (.slice D1 (stubN N a).ids.length d1) (.slice D2 (stubN N a).inputs.length d2)).heap.size := by rw [set3_size]; exact Nat.le_trans Hsz6.out hs8.below.size
       have Hsz4 := Lib.hid hsz4
       have Hg2 := Lib.hid (Hgd.out.stubLow4 (v := a) (by rw [HNl.out]; exact ham) (by rw [← Hxae.out]; exact h5) (by omega))
       have Hl2 := Lib.hid ((stub_len N a).trans HNl.out)
       clear hma ho2 hb2 hs8 hsz4
       go_wp2
       go_roundw
       case rel => exact ⟨k - 1, _, _, _, stubN N a, S3, by omega, by rw [show ((k - 1 : Nat) : Int) = (k : Int) - 1 by omega], ⟨Hma.out.own, Hma.out.box, Hma.out.nb, Hma.out.cur.mono (by omega), Hma.out.far⟩, Hg2.out, Hl2.out, Hsz4.out⟩
       case measure => simp [intOf]; omega
     ·have e6 : ((4 : Int) < (xb.length : Int)) = True := by simp; omega
      go_wp2
      go_roundw
      case rel => exact ⟨k - 1, _, _, _, N, S2, by omega, by rw [show ((k - 1 : Nat) : Int) = (k : Int) - 1 by omega], (⟨Hm5.out.own, Hm5.out.box, Hm5.out.nb, Hm5.out.cur.mono (by omega), Hm5.out.far⟩), Hgd.out, HNl.out, Hsz5.out⟩
      case measure => simp [intOf]; omega
    ·have e5 : ((4 : Int) < (xa.length : Int)) = True := by simp; omega
     go_wp2
     go_roundw
     case rel => exact ⟨k - 1, _, _, _, N, S2, by omega, by rw [show ((k - 1 : Nat) : Int) = (k : Int) - 1 by omega], (⟨Hm5.out.own, Hm5.out.box, Hm5.out.nb, Hm5.out.cur.mono (by omega), Hm5.out.far⟩), Hgd.out, HNl.out, Hsz5.out⟩
     case measure => simp [intOf]; omega
   ·obtain rfl : k = 0 := by omega
    obtain ⟨k0, k1, k2, -, -, -⟩ := Hm.out.box.cells
    have Hm2 := Hm
    have Hsz2 := Hsz
    obtain ⟨w5, rfl⟩ : ∃ z, z = wr := ⟨_, rfl⟩
    go_upto_region 21 with (fail)
    go_wp2_with fail
    refine (mixed_p cb A L c _ B 100 M _ _ _ N S2 w5 Hm2.out.cur (by have := HQ.out; omega) Hm2.out.own hcB Hsz2.out Hgd.out (by omega) (by omega) (by have := HNl.out; omega)).mono ?_
    rintro e w6 ⟨ve6, vi6, vn6, N6, S6, rfl, ho6, ⟨hsh6, hg6⟩, hcu6, hC6⟩
    obtain ⟨D0, d0, rfl, -, -, -⟩ := id ho6.read.1
    obtain ⟨D1, d1, rfl, -, -, -⟩ := id ho6.read.2.1
    obtain ⟨D2, d2, rfl, -, -, -⟩ := id ho6.read.2.2
    have hfar := (Hm2.out.far.mono (Nat.le_refl B)).trans hC6
    have hrw := hfar.blkN Hrb.out (by have := HBd.out; omega) (by omega)
    obtain ⟨e0, e1, e2, f0, f1, f2⟩ := hrw.box.cells
    have hown := ho6
    rw [HBd.out] at hown hfar
    have Hret := Lib.hid (ret_net Hs0.out hown hcu6 hfar hcb)
    have Hsh6 := Lib.hid hsh6
    have Hg6 := Lib.hid hg6
    clear hfar hrw hown hsh6 hg6 hcu6 hC6 ho6 k0 k1 k2
    go_wp2
    refine bodyPost_ret (v := .agg #[.slice D0 N6.ends.length d0, .slice D1 N6.ids.length d1, .slice D2 N6.inputs.length d2]) (by simp [results, Tryz.results127, go_sem, *]) rfl ?_
    obtain ⟨r1, r2, r3⟩ := Hret.out
    exact ⟨_, _, _, N6, S6, rfl, r1, ⟨Hg6.out.mono (by omega) (by omega), by have := HNl.out; have := Hsh6.out.len; omega⟩, r2.mono (by have := HQ.out; omega), r3⟩
end Go.Proofs.YtgmdpppljkmabaaGreat
