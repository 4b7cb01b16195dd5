/- Parts of the proof: walks of functions and plain laws. -/
import Derived.Test.YtgmdpppljkmabaaGreatP0
import Derived.Test.YtgmdpppljkmabaaGreatP21
import Derived.Test.YtgmdpppljkmabaaGreatP16
namespace Go.Proofs.YtgmdpppljkmabaaGreat
open Go Go.RowKit
/-! identifiers and inputs of the variable are turned; withIds -/
theorem Mb.putIds {cb B pb : Nat} {A : Option Addr} {L c P : Nat} {w W W1 : World} {ve vi vn v' : Value} {N : Net} {S T : List Nat} {ids' : List Int} (h : Mb cb B pb A L c P w W ve vi vn N S) (ho : OwnI W1 B v' ids' T) (hon : Only vi.ownBlock.toList W W1) (hT : ∀ j ∈ T, j ∈ vi.ownBlock.toList ∨ W.heap.size ≤ j) (hb : cb < B) (hp : B ≤ pb) (hB : B ≤ W.heap.size) :
  Box3 W1 pb ve vi vn ∧ ∃ S', Mb cb B pb A L c P w (W1.setCell ⟨pb, 1, none⟩ v') ve v' vn { N with ids := ids' } S' ∧ ∀ j ∈ S', j ∈ S ∨ W.heap.size ≤ j := by
 obtain ⟨S1, S2, S3, -, h2, -, h4, -⟩ := id h.own
 have hS : ∀ j ∈ vi.ownBlock.toList, j ∈ S := fun j hj => by rw [h4, h2.2]; exact List.mem_append_right _ (List.mem_append_left _ hj)
 have hbl := h.box.lt
 have hnI : pb ∉ vi.ownBlock.toList := fun hm => h.nb (hS _ hm)
 have hbx : Box3 W1 pb ve vi vn := h.box.blk (hon.block pb hbl hnI)
 obtain ⟨S', hO', hS'⟩ := h.own.turnIds ho hon hT
 have hn : pb ∉ S' := fun hj => by
  rcases hS' _ hj with h1 | h1
  ·exact h.nb h1
  ·omega
 have hbe : Below B W W1 := hon.below B hB (fun k hk => (h.own.range k (hS k hk)).1)
 refine ⟨hbx, S', ⟨hO'.stable (fun k hk => Below.heap_setCell _ _ _ _ (fun e => hn (by have e' : k = pb := e; exact e' ▸ hk))), hbx.put1, hn, (h.cur.keep (fun k hk => hbe.block k (by omega))).keep (fun k hk => Below.heap_setCell _ _ _ _ (by show k ≠ pb; omega)), (h.far.trans (CB.of hbe)).setCell (p := ⟨pb, 1, none⟩) (.inl hp) _⟩, hS'⟩
theorem Mb.putIn {cb B pb : Nat} {A : Option Addr} {L c P : Nat} {w W W1 : World} {ve vi vn v' : Value} {N : Net} {S T : List Nat} {in' : List Int} (h : Mb cb B pb A L c P w W ve vi vn N S) (ho : OwnI W1 B v' in' T) (hon : Only vn.ownBlock.toList W W1) (hT : ∀ j ∈ T, j ∈ vn.ownBlock.toList ∨ W.heap.size ≤ j) (hb : cb < B) (hp : B ≤ pb) (hB : B ≤ W.heap.size) :
  Box3 W1 pb ve vi vn ∧ ∃ S', Mb cb B pb A L c P w (W1.setCell ⟨pb, 2, none⟩ v') ve vi v' { N with inputs := in' } S' ∧ ∀ j ∈ S', j ∈ S ∨ W.heap.size ≤ j := by
 obtain ⟨S1, S2, S3, -, -, h2, h4, -⟩ := id h.own
 have hS : ∀ j ∈ vn.ownBlock.toList, j ∈ S := fun j hj => by rw [h4, h2.2]; exact List.mem_append_right _ (List.mem_append_right _ hj)
 have hbl := h.box.lt
 have hnI : pb ∉ vn.ownBlock.toList := fun hm => h.nb (hS _ hm)
 have hbx : Box3 W1 pb ve vi vn := h.box.blk (hon.block pb hbl hnI)
 obtain ⟨S', hO', hS'⟩ := h.own.turnIn ho hon hT
 have hn : pb ∉ S' := fun hj => by
  rcases hS' _ hj with h1 | h1
  ·exact h.nb h1
  ·omega
 have hbe : Below B W W1 := hon.below B hB (fun k hk => (h.own.range k (hS k hk)).1)
 refine ⟨hbx, S', ⟨hO'.stable (fun k hk => Below.heap_setCell _ _ _ _ (fun e => hn (by have e' : k = pb := e; exact e' ▸ hk))), hbx.put2, hn, (h.cur.keep (fun k hk => hbe.block k (by omega))).keep (fun k hk => Below.heap_setCell _ _ _ _ (by show k ≠ pb; omega)), (h.far.trans (CB.of hbe)).setCell (p := ⟨pb, 2, none⟩) (.inl hp) _⟩, hS'⟩
theorem Mb.ownIds {cb B pb : Nat} {A : Option Addr} {L c P : Nat} {w W : World} {ve vi vn : Value} {N : Net} {S : List Nat} (h : Mb cb B pb A L c P w W ve vi vn N S) : OwnI W B vi N.ids vi.ownBlock.toList ∧ ∀ j ∈ vi.ownBlock.toList, j ∈ S := by
 obtain ⟨S1, S2, S3, -, h2, -, h4, -⟩ := id h.own
 exact ⟨⟨h2.1, rfl⟩, fun j hj => by rw [h4, h2.2]; exact List.mem_append_right _ (List.mem_append_left _ hj)⟩
theorem Mb.ownIn {cb B pb : Nat} {A : Option Addr} {L c P : Nat} {w W : World} {ve vi vn : Value} {N : Net} {S : List Nat} (h : Mb cb B pb A L c P w W ve vi vn N S) : OwnI W B vn N.inputs vn.ownBlock.toList ∧ ∀ j ∈ vn.ownBlock.toList, j ∈ S := by
 obtain ⟨S1, S2, S3, -, -, h2, h4, -⟩ := id h.own
 exact ⟨⟨h2.1, rfl⟩, fun j hj => by rw [h4, h2.2]; exact List.mem_append_right _ (List.mem_append_right _ hj)⟩
theorem one_int (w : World) (x : Int) : IntS (w.alloc (.cells #[.int .i64 x] 3)) (.slice (some ⟨w.heap.size, 0, none⟩) 1 1) [x] := by
 refine ⟨_, 1, rfl, Nat.le_refl _, by unfold maxLen; omega, fun k y h => ?_⟩
 have hk := lt_of_get h
 have hk0 : k = 0 := by simp at hk; omega
 subst hk0
 have hy : x = y := by simpa using h
 subst hy
 exact ⟨_, _, rfl, by simp⟩
theorem Mb.idMore {cb B pb og : Nat} {A : Option Addr} {L c P : Nat} {w W W1 : World} {ve vi vn v' uo : Value} {N : Net} {S T : List Nat} {y : Int} {xs : List Int} {Bo : Nat} (h : Mb cb B pb A L c P w W ve vi vn N S) (ho : OwnI W1 B v' (N.ids ++ [y]) T) (hon : Only vi.ownBlock.toList W W1) (hT : ∀ j ∈ T, j ∈ vi.ownBlock.toList ∨ W.heap.size ≤ j) (hb : cb < B) (hp : B ≤ pb) (hB : B ≤ W.heap.size)
  (hord : Own W Bo uo xs) (huo : uo.ownBlock = some og) (hog : og ∉ S ∧ og ≠ pb) (hr : BoxN W (pb + 1) (.slice none 0 0) (.slice none 0 0) (.slice none 0 0)) (hn : pb + 1 ∉ S) :
  Box3 W1 pb ve vi vn ∧ ∃ S', Mb cb B pb A L c P w (W1.setCell ⟨pb, 1, none⟩ v') ve v' vn { N with ids := N.ids ++ [y] } S' ∧ Own (W1.setCell ⟨pb, 1, none⟩ v') Bo uo xs ∧ BoxN (W1.setCell ⟨pb, 1, none⟩ v') (pb + 1) (.slice none 0 0) (.slice none 0 0) (.slice none 0 0) ∧ W.heap.size ≤ (W1.setCell ⟨pb, 1, none⟩ v').heap.size ∧ pb + 1 ∉ S' ∧ og ∉ S' := by
 obtain ⟨hb3, S', hm3, hS'⟩ := h.putIds ho hon hT hb hp hB
 have hsub := h.ownIds.2
 have hogl := (World.ownsRow.lt hord og huo).2
 refine ⟨hb3, S', hm3, ownsRow_stable hord (fun j hj => ?_), ?_, by rw [sizeSet]; exact hon.size, fun hj => ?_, fun hj => ?_⟩
 ·have hj' : j = og := by rw [huo] at hj; simpa [eq_comm] using hj
  subst hj'
  rw [Below.heap_setCell _ _ _ _ (by exact hog.2)]
  exact hon.block _ hogl (fun hm => hog.1 (hsub _ hm))
 ·show (W1.setCell _ _).heap[pb + 1]? = _
  rw [Below.heap_setCell _ _ _ _ (by show pb + 1 ≠ pb; omega), hon.block _ hr.lt (fun hm => hn (hsub _ hm))]
  exact hr
 ·rcases hS' _ hj with h1 | h1
  ·exact hn h1
  ·have := hr.lt; omega
 ·rcases hS' _ hj with h1 | h1
  ·exact hog.1 h1
  ·omega
theorem Mb.ret {cb B pb rb : Nat} {A : Option Addr} {L c P : Nat} {w W : World} {ve vi vn : Value} {N : Net} {S : List Nat} (h : Mb cb B pb A L c P w W ve vi vn N S) (hr : rb ∉ S) (hB : B ≤ rb) (hcb : cb < B) :
  OwnNet (set3 W rb ve vi vn) B ve vi vn N S ∧ CurP (set3 W rb ve vi vn) cb A L c P ∧ CB cb B w (set3 W rb ve vi vn) := by
 refine ⟨h.own.stable (fun k hk => set3_blk _ _ _ _ _ (fun e => hr (e ▸ hk))), h.cur.keep (fun k hk => set3_blk _ _ _ _ _ (by omega)), ?_⟩
 exact ((h.far.setCell (p := ⟨rb, 0, none⟩) (.inl hB) _).setCell (p := ⟨rb, 1, none⟩) (.inl hB) _).setCell (p := ⟨rb, 2, none⟩) (.inl hB) _
set_option maxRecDepth 100000 in
set_option maxHeartbeats 8000000 in
theorem withIds_p (cb : Nat) (A : Option Addr) (L c P R M : Nat) (ve vi vn : Value) (n : Net) (w : World) (hc : CurP w cb A L c P) (hP : P ≤ 4500000000000000000) (h : NetIn w ve vi vn n) (hg : Gd R M n) (hR : R ≤ 100) (hM : M ≤ 100) :
  Calls Tryz.prog 157 #[.pointer (some ⟨cb, 0, none⟩), .agg #[ve, vi, vn]] w (NewD cb w.heap.size A L c (P + 1000) w (fun N => N.ends = n.ends ∧ N.inputs = n.inputs ∧ N.ids.length = n.ends.length)) := by
 have hcb := hc.lt
 obtain ⟨A1, c1, rfl, -, hm1, -⟩ := id h.1
 obtain ⟨AI, cI, rfl, -, -, -⟩ := id h.2.1
 obtain ⟨AN, cN, rfl, -, -, -⟩ := id h.2.2
 obtain ⟨pb, hpb⟩ : ∃ z, z = w.heap.size := ⟨_, rfl⟩
 obtain ⟨w0, hw0⟩ : ∃ z, z = w.alloc (.cells #[.slice A1 n.ends.length c1, .slice AI n.ids.length cI, .slice AN n.inputs.length cN] 27) := ⟨_, rfl⟩
 obtain ⟨wa, hwa⟩ : ∃ z, z = w0.alloc (.cells #[.slice none 0 0, .slice none 0 0, .slice none 0 0] 27) := ⟨_, rfl⟩
 have hs0 : Since w w0 := by rw [hw0]; exact since_alloc _ (since_refl _)
 have hs1 : Since w0 wa := by rw [hwa]; exact since_alloc _ (since_refl _)
 have h01 : w0.heap.size = w.heap.size + 1 := by rw [hw0]; simp
 have hb0 : Box3 w0 pb (.slice A1 n.ends.length c1) (.slice AI n.ids.length cI) (.slice AN n.inputs.length cN) := by rw [hw0, hpb]; exact Box3.new _ _ _ _ _
 have hba := hb0.below hs1 (by rw [h01, hpb]; omega)
 have hrb : BoxN wa (pb + 1) (.slice none 0 0) (.slice none 0 0) (.slice none 0 0) := by
  rw [hwa, hpb, ← h01]
  show (w0.heap.push _)[w0.heap.size]? = _
  rw [Array.getElem?_push_size]
 have hsw : Since w wa := hs0.after hs1
 have Hpb : Hid (cb < pb ∧ pb + 2 = wa.heap.size ∧ pb = w.heap.size) := ⟨by omega, by rw [hpb, hwa]; simp; omega, hpb⟩
 have Hsw := Lib.hid hsw
 have Hrb := Lib.hid hrb
 have Hba := Lib.hid hba
 have Hca := Lib.hid (hc.since hsw)
 have HNa := Lib.hid (h.keep hsw.below)
 have Hg := Lib.hid hg
 have Hw0 := Lib.hid hw0
 have Hwa := Lib.hid hwa
 have hbx := hba.cells
 have he40 : n.ends.length ≤ 100 := by have := hg.ends; omega
 clear hc h hs0 hs1 hb0 hrb hsw hba hg hw0 hwa hpb h01
 go_enter Tryz.func157, Tryz.ntmps157
 go_upto_region 1 with (fail)
 rw [← Hw0.out, ← Hwa.out, ← Hpb.out.2.2]
 obtain ⟨x0, x1, x2, f0, f1, f2⟩ := hbx
 go_wp2_with fail
 refine (neOwn_gen _ _ _ n wa HNa.out (by omega) (fun k es he => by have := Hg.out.row k es he; omega) (Hg.out.small hR hM).sz).mono ?_
 rintro e w1 ⟨ue, ui, un, S0, rfl, ho, hb1⟩
 have hs1 : Since wa w1 := hb1
 obtain ⟨E1, e1, rfl, -, -, -⟩ := id ho.read.1
 obtain ⟨EI, eI, rfl, -, -, -⟩ := id ho.read.2.1
 obtain ⟨EN, eN, rfl, -, -, -⟩ := id ho.read.2.2
 clear x0 x1 x2 f0 f1 f2
 have hbx1 := Hba.out.below hs1 Hba.out.lt
 obtain ⟨x0, x1, x2, f0, f1, f2⟩ := hbx1.cells
 have hnb : pb ∉ S0 := fun hj => by have h1 := (ho.range _ hj).1; have h2 := Hpb.out; omega
 have hset : Mb cb w.heap.size pb A L c P w (set3 w1 pb (.slice E1 n.ends.length e1) (.slice EI n.ids.length eI) (.slice EN n.inputs.length eN)) (.slice E1 n.ends.length e1) (.slice EI n.ids.length eI) (.slice EN n.inputs.length eN) n S0 := by
  have h0 := Hpb.out
  refine ⟨(ho.stable (fun k hk => set3_blk _ _ _ _ _ (fun e => hnb (by have e' : k = pb := e; exact e' ▸ hk)))).mono (by omega), hbx1.set3 _ _ _, hnb, ((Hca.out.since hs1).keep (fun k hk => set3_blk _ _ _ _ _ (by omega))), ?_⟩
  exact ((((CB.of (Hsw.out.after hs1).below).mono (Nat.le_refl _)).setCell (p := ⟨pb, 0, none⟩) (.inl (by show _ ≤ pb; omega)) _).setCell (p := ⟨pb, 1, none⟩) (.inl (by show _ ≤ pb; omega)) _).setCell (p := ⟨pb, 2, none⟩) (.inl (by show _ ≤ pb; omega)) _
 have hr1 : BoxN (set3 w1 pb (.slice E1 n.ends.length e1) (.slice EI n.ids.length eI) (.slice EN n.inputs.length eN)) (pb + 1) (.slice none 0 0) (.slice none 0 0) (.slice none 0 0) := (set3_blk _ _ _ _ _ (by omega)).trans (Hrb.out.since hs1)
 have hz1 : wa.heap.size ≤ (set3 w1 pb (.slice E1 n.ends.length e1) (.slice EI n.ids.length eI) (.slice EN n.inputs.length eN)).heap.size := by rw [set3_size]; exact hs1.below.size
 have hn1 : pb + 1 ∉ S0 := fun hj => by have h1 := (ho.range _ hj).1; have h2 := Hpb.out; omega
 have Hset := Lib.hid hset
 have Hr1 := Lib.hid hr1
 have Hz1 := Lib.hid hz1
 have Hn1 := Lib.hid hn1
 have Hfz := Lib.hid (And.intro f0 (And.intro f1 f2))
 clear hset hr1 hz1 hn1 ho hb1 hs1 hbx1 hnb
 go_upto_region 2 with (fail)
 obtain ⟨w2, hw2⟩ : ∃ z, z = ((w1.setCell ⟨pb, 0, none⟩ (.slice E1 n.ends.length e1)).setCell ⟨pb, 1, none⟩ (.slice EI n.ids.length eI)).setCell ⟨pb, 2, none⟩ (.slice EN n.inputs.length eN) := ⟨_, rfl⟩
 rw [← hw2]
 have Hm2 : Hid (Mb cb w.heap.size pb A L c P w w2 (.slice E1 n.ends.length e1) (.slice EI n.ids.length eI) (.slice EN n.inputs.length eN) n S0) := by show Mb _ _ _ _ _ _ _ _ _ _ _ _ _ _; rw [hw2]; exact Hset.out
 have Hr2 : Hid (BoxN w2 (pb + 1) (.slice none 0 0) (.slice none 0 0) (.slice none 0 0)) := by show BoxN _ _ _ _ _; rw [hw2]; exact Hr1.out
 have Hz2 : Hid (wa.heap.size ≤ w2.heap.size) := by show _ ≤ _; rw [hw2]; exact Hz1.out
 clear hw2 Hset Hr1 Hz1 Hfz x0 x1 x2 f0 f1 f2
 have hB2 : w.heap.size ≤ w2.heap.size := by have h1 := Hz2.out; have h2 := Hpb.out; omega
 have hBp : w.heap.size ≤ pb := by have h2 := Hpb.out; omega
 obtain ⟨hb3, S1, hm3, hS3⟩ := Hm2.out.putIds (v' := .slice none 0 0) (ids' := []) (ownI_nil _ _) (Only.refl _ _) (fun j hj => by simp at hj) hcb hBp hB2
 obtain ⟨-, x1, -, -, f1, -⟩ := Hm2.out.box.cells
 have Hm3 := Lib.hid hm3
 have Hr3 : Hid (BoxN (w2.setCell ⟨pb, 1, none⟩ (.slice none 0 0)) (pb + 1) (.slice none 0 0) (.slice none 0 0) (.slice none 0 0)) := Hr2.out.other (by show pb + 1 ≠ pb; omega)
 have Hn3 : Hid (pb + 1 ∉ S1) := fun hj => by
  rcases hS3 _ hj with h1 | h1
  ·exact Hn1.out h1
  ·have h2 := Hz2.out; have h3 := Hpb.out; omega
 have Hz3 : Hid (wa.heap.size ≤ (w2.setCell ⟨pb, 1, none⟩ (.slice none 0 0)).heap.size) := by show _ ≤ _; rw [sizeSet]; exact Hz2.out
 clear hb3 hm3 hS3 hB2
 go_upto_region 3 with (fail)
 obtain ⟨w3, hw3⟩ : ∃ z, z = w2.setCell ⟨pb, 1, none⟩ (.slice none 0 0) := ⟨_, rfl⟩
 rw [← hw3] at Hm3 Hr3 Hz3 ⊢
 clear hw3 x1 f1
 go_wp2_with fail
 refine (one_p cb A L c P 2 w3 Hm3.out.cur (by omega) (by omega)).mono ?_
 rintro e w4 ⟨small, rfl, hcu4, hC4⟩
 have hB3 : w.heap.size ≤ w3.heap.size := by have h1 := Hz3.out; have h2 := Hpb.out; omega
 have Hm4 := Lib.hid (Hm3.out.seen hC4 hcu4 hcb hBp hB3)
 have Hr4 : Hid (BoxN w4 (pb + 1) (.slice none 0 0) (.slice none 0 0) (.slice none 0 0)) := (hC4.block _ Hr3.out.lt (by have := Hpb.out; omega)).trans Hr3.out
 have Hz4 : Hid (wa.heap.size ≤ w4.heap.size) := Nat.le_trans Hz3.out hC4.size
 clear hcu4 hC4 hB3
 obtain ⟨y0, -, -, -, -, -⟩ := Hm4.out.box.cells
 go_wp2_with fail
 refine (perm_p cb A L c (P + 2) n.ends.length w4 Hm4.out.cur (by omega) he40).mono ?_
 rintro e w5 ⟨og, xs, rfl, hop, hpb5, hcu5, hC5⟩
 have hB4 : w.heap.size ≤ w4.heap.size := by have h1 := Hz4.out; have h2 := Hpb.out; omega
 have Hm5 := Lib.hid (Hm4.out.seen hC5 hcu5 hcb hBp hB4)
 have Hr5 : Hid (BoxN w5 (pb + 1) (.slice none 0 0) (.slice none 0 0) (.slice none 0 0)) := (hC5.block _ Hr4.out.lt (by have := Hpb.out; omega)).trans Hr4.out
 have Hz5 : Hid (wa.heap.size ≤ w5.heap.size) := Nat.le_trans Hz4.out hC5.size
 have Hop := Lib.hid hop
 have HpB := Lib.hid hpb5
 have hxl : xs.length = n.ends.length := hop.len.symm ▸ rfl
 have Hog : Hid (og ∉ S1 ∧ og ≠ pb ∧ og ≠ pb + 1 ∧ cb < og ∧ og < w5.heap.size) := by
  have h1 := (World.ownsRow.lt hop og (by simp [Value.ownBlock]))
  have h2 := Hm4.out.box.lt
  have h3 := Hr4.out.lt
  exact ⟨fun hj => by have := (Hm4.out.own.range _ hj).2; omega, by omega, by omega, by omega, h1.2⟩
 clear hop hpb5 hcu5 hC5 hB4 y0
 have Hxl := Lib.hid hxl
 clear hxl
 go_upto_region 6 with (fail)
 have hpc : pb ≠ cb := by have := Hpb.out; omega
 go_loopw [21] (fun i wr => ∃ (k : Nat) (vi : Value) (N : Net) (S : List Nat), k ≤ n.ends.length ∧ i = .int .i64 k ∧ Mb cb w.heap.size pb A L c (P + 202 + 2 * k) w wr (.slice E1 n.ends.length e1) vi (.slice EN n.inputs.length eN) N S ∧ N.ends = n.ends ∧ N.inputs = n.inputs ∧ N.ids.length = k ∧ Own wr w4.heap.size (.slice (some ⟨og, 0, none⟩) n.ends.length n.ends.length) xs ∧ BoxN wr (pb + 1) (.slice none 0 0) (.slice none 0 0) (.slice none 0 0) ∧ wa.heap.size ≤ wr.heap.size ∧ pb + 1 ∉ S ∧ og ∉ S) (fun i _ => n.ends.length - (intOf i).toNat)
 case atStart => exact ⟨0, _, { n with ids := [] }, S1, Nat.zero_le _, rfl, ⟨Hm5.out.own, Hm5.out.box, Hm5.out.nb, Hm5.out.cur.mono (by omega), Hm5.out.far⟩, rfl, rfl, rfl, Hop.out, Hr5.out, Hz5.out, Hn3.out, Hog.out.1⟩
 case round =>
  obtain ⟨k, vi, N, S, hk, rfl, hm, hNe, hNi, hil, hord, hr, hz, hn1, hno⟩ := hrel
  obtain ⟨AI', cI', rfl, -, -, -⟩ := id hm.own.read.2.1
  have hm' : Mb cb w.heap.size pb A L c (P + 202 + 2 * k) w wr (.slice E1 n.ends.length e1) (.slice AI' k cI') (.slice EN n.inputs.length eN) N S := by rw [hil] at hm; exact hm
  have Hm := Lib.hid hm'
  have Hf := Lib.hid (And.intro hNe (And.intro hNi hil))
  have Hord := Lib.hid hord
  have Hr := Lib.hid hr
  have Hz := Lib.hid hz
  have Hn1 := Lib.hid hn1
  have Hno := Lib.hid hno
  have HzB : Hid (w.heap.size ≤ wr.heap.size) := by show _ ≤ _; have h1 := Hpb.out; omega
  clear hm hm' hNe hNi hil hord hr hz hn1 hno
  by_cases hlt : k < n.ends.length
  ·obtain ⟨x, hx⟩ := getx xs k (by rw [Hxl.out]; exact hlt)
   have hxr := HpB.out x (List.mem_of_getElem? hx)
   have c0 := Hord.out.cell hx
   have m3 : IntKind.i64.wrap ((k : Int) + 1) = (k : Int) + 1 := wr64 _ (by omega) (by omega)
   have Hl : Hid (N.ids.length + [x + 1].length ≤ 17592186044416) := by show _ ≤ _; have := Hf.out.2.2; simp; omega
   cases small
   ·obtain ⟨y, hy⟩ : ∃ z, z = 1 + x * 20000 := ⟨_, rfl⟩
    have m1 : IntKind.i64.wrap (x * 20000) = x * 20000 := wr64 _ (by omega) (by omega)
    have m2 : IntKind.i64.wrap (1 + x * 20000) = y := by rw [hy]; exact wr64 _ (by omega) (by omega)
    have Hyb : Hid (0 ≤ y ∧ y ≤ 100000000) := by show _ ∧ _; omega
    obtain ⟨wo, rfl⟩ : ∃ z, z = wr := ⟨_, rfl⟩
    have HS0 := Lib.hid (show wo.cell? ⟨pb, 1, none⟩ = some (.slice AI' k cI') from Hm.out.box.cells.2.1)
    clear hxr hx hy
    go_upto_region 10 with (fail)
    refine wp_region_chainS (fun W => W.cell? ⟨pb, 1, none⟩ = some (.slice AI' k cI')) 10 [false, false, false, false, false, false, true, true, true, true] (by kernel_rfl) (by kernel_rfl) (show (World.drew wo).cell? ⟨pb, 1, none⟩ = some (.slice AI' k cI') from HS0.out) ?_
    simp only [selF, selT, List.take_succ_cons, List.take_zero, List.drop_succ_cons, List.drop_zero]
    refine pflowS_val (v := ?_) rfl ?_ ?_; rotate_left; (intro W hW; (have k0 := hW); go_simp; with_reducible rfl)
    simp only [zA]
    refine pflowS_val (v := ?_) rfl ?_ ?_; rotate_left; (intro W hW; (have k0 := hW); go_simp; with_reducible rfl)
    simp only [zA]
    refine pflowS_val (v := ?_) rfl ?_ ?_; rotate_left; (intro W hW; (have k0 := hW); go_simp; with_reducible rfl)
    simp only [zA]
    refine pflowS_val (v := ?_) rfl ?_ ?_; rotate_left; (intro W hW; (have k0 := hW); go_simp; with_reducible rfl)
    simp only [zA]
    refine pflowS_val (v := ?_) rfl ?_ ?_; rotate_left; (intro W hW; (have k0 := hW); go_simp; with_reducible rfl)
    simp only [zA]
    refine pflowS_val (v := ?_) rfl ?_ ?_; rotate_left; (intro W hW; (have k0 := hW); go_simp; with_reducible rfl)
    simp only [zA]
    obtain ⟨W, hWd⟩ : ∃ W, W = World.drew wo := ⟨_, rfl⟩
    rw [← hWd]
    have hW := (show (World.drew wo).cell? ⟨pb, 1, none⟩ = some (.slice AI' k cI') from HS0.out)
    rw [← hWd] at hW
    have HWd := Lib.hid hWd
    clear hWd
    refine Or.inl ⟨rfl, ?_⟩
    go_simp
    (with_reducible refine (pick_p cb A L c (P + 202 + 2 * k) 20000 W (by rw [HWd.out]; exact Hm.out.cur.since (since_drew (since_refl _))) (by omega) (by omega)).mono ?_)
    rintro e W' ⟨a, rfl, ha, hcu, hC⟩
    refine ⟨_, rfl, seen_cell hW hpc _ hC, ?_⟩
    replace hW := seen_cell hW hpc _ hC
    have hS1 : Since wo W := (by rw [HWd.out]; exact since_drew (since_refl _))
    have hC3 := ((Seen.refl cb wo).after hS1).trans hC
    have Hm7 := Lib.hid (Hm.out.seen hC3 hcu hcb hBp HzB.out)
    have Ho7 := Lib.hid (ownsRow_stable Hord.out (fun j hj => (show j = og by simpa [Value.ownBlock, eq_comm] using hj) ▸ hC3.block og (World.ownsRow.lt Hord.out og rfl).2 (by have := Hog.out; omega)))
    have Hr7 : Hid (BoxN W' (pb + 1) (.slice none 0 0) (.slice none 0 0) (.slice none 0 0)) := (hC3.block _ Hr.out.lt (by have := Hpb.out; omega)).trans Hr.out
    have Hz7 : Hid (wa.heap.size ≤ W'.heap.size) := Nat.le_trans Hz.out hC3.size
    have HzB7 : Hid (w.heap.size ≤ W'.heap.size) := Nat.le_trans HzB.out hC3.size
    have m4 : IntKind.i64.wrap (y + (a : Int)) = y + (a : Int) := wr64 _ (by have := Hyb.out; omega) (by have := Hyb.out; omega)
    clear hC hcu hS1 ha hC3
    (try simp only [zA])
    refine tflow_val (v := ?_) rfl ?_ hW ?_; rotate_left; (go_simp; with_reducible rfl)
    simp only [zA]
    refine tflow_allocS (v := ?_) (ob := ?_) rfl ?_ ?_ ?_; rotate_left 2
    (go_simp; first | with_reducible rfl | (refine ⟨?_, ?_⟩ <;> with_reducible rfl))
    exact bc (below_alloc _ _) hW
    intro w8 hw8d hw8s
    replace hW := hw8s
    clear hw8s
    have hsA : Since W' w8 := (by rw [hw8d]; exact since_alloc _ (since_refl _))
    have Hm8 := Lib.hid (Hm7.out.since hsA hcb hBp HzB7.out)
    have Ho8 := Lib.hid (Own.since Ho7.out hsA)
    have Hr8 := Lib.hid (Hr7.out.since hsA)
    have Hz8 : Hid (wa.heap.size ≤ w8.heap.size) := Nat.le_trans Hz7.out hsA.below.size
    have HzB8 : Hid (w.heap.size ≤ w8.heap.size) := Nat.le_trans HzB7.out hsA.below.size
    have Hi8 : Hid (IntS w8 (.slice (some ⟨W'.heap.size, 0, none⟩) 1 1) [y + (a : Int)]) := (by show IntS _ _ _; rw [hw8d]; exact one_int _ _)
    have Hown8 := Lib.hid Hm8.out.ownIds.1.1
    have Hl8 : Hid (N.ids.length + [y + (a : Int)].length ≤ 17592186044416) := Hl.out
    clear hw8d hsA
    (try simp only [zA])
    refine tflow_of_wp (fun Q' HQ => ?_)
    (refine app_intsA (base := w.heap.size) (v := .slice AI' k cI') (xs := N.ids) rfl _ _ rfl rfl Hown8.out rfl Hi8.out Hl8.out HzB8.out ?_); intro v' w9 T ho9 hon9 hT9; obtain ⟨V, mV, cV, rfl⟩ := lawI.one ho9; obtain ⟨hb9, S9, hm9, ho9', hr9, hz9, hn9, hno9⟩ := Hm8.out.idMore ho9 hon9 hT9 hcb hBp HzB8.out Ho8.out rfl ⟨Hno.out, Hog.out.2.1⟩ Hr8.out Hn1.out; refine HQ _ _ hb9.cells.2.1 ?_; clear ho9 hon9 hT9; have Hm9 := Lib.hid hm9; have Ho9 := Lib.hid ho9'; have Hr9 := Lib.hid hr9; have Hz9 := Lib.hid hz9; have Hn9 := Lib.hid hn9; have Hno9 := Lib.hid hno9; clear hm9 ho9' hr9 hz9 hn9 hno9; obtain ⟨x0, x1, x2, f0, f1, f2⟩ := hb9.cells; clear hb9
    (try simp only [zA])
    simp only [TFlow]
    go_wp2
    go_roundw
    case rel => exact ⟨k + 1, _, _, S9, by omega, by first | rfl | go_num, ⟨Hm9.out.own, Hm9.out.box, Hm9.out.nb, Hm9.out.cur.mono (by omega), Hm9.out.far⟩, Hf.out.1, Hf.out.2.1, by have := Hf.out.2.2; simp; omega, Ho9.out, Hr9.out, Nat.le_trans Hz8.out Hz9.out, Hn9.out, Hno9.out⟩
    case measure => simp [intOf]; omega
   ·have m1 : IntKind.i64.wrap (x + 1) = x + 1 := wr64 _ (by omega) (by omega)
    have hsA : Since wr (wr.alloc (.cells #[.int .i64 (x + 1)] 3)) := since_alloc _ (since_refl _)
    have HmA := Lib.hid (Hm.out.since hsA hcb hBp HzB.out)
    have HoA := Lib.hid (Hord.out.since hsA)
    have HrA := Lib.hid (Hr.out.since hsA)
    have HzA : Hid (wa.heap.size ≤ (wr.alloc (.cells #[.int .i64 (x + 1)] 3)).heap.size) := Nat.le_trans Hz.out hsA.below.size
    have HzB2 : Hid (w.heap.size ≤ (wr.alloc (.cells #[.int .i64 (x + 1)] 3)).heap.size) := Nat.le_trans HzB.out hsA.below.size
    obtain ⟨x0, x1, x2, f0, f1, f2⟩ := Hm.out.box.cells
    have hown := HmA.out.ownIds.1.1
    have Hown := Lib.hid hown
    clear hsA hxr hx hown
    go_wp2_with (at_builtin; refine app_intsA (base := w.heap.size) rfl _ _ rfl rfl Hown.out rfl (one_int _ _) Hl.out HzB2.out ?_; intro v' w9 T ho9 hon9 hT9; obtain ⟨V, mV, cV, rfl⟩ := lawI.one ho9; obtain ⟨hb9, S9, hm9, ho9', hr9, hz9, hn9, hno9⟩ := HmA.out.idMore ho9 hon9 hT9 hcb hBp HzB2.out HoA.out rfl ⟨Hno.out, Hog.out.2.1⟩ HrA.out Hn1.out; clear x0 x1 x2 f0 f1 f2 ho9 hon9 hT9; have Hm9 := Lib.hid hm9; have Ho9 := Lib.hid ho9'; have Hr9 := Lib.hid hr9; have Hz9 := Lib.hid hz9; have Hn9 := Lib.hid hn9; have Hno9 := Lib.hid hno9; clear hm9 ho9' hr9 hz9 hn9 hno9; obtain ⟨x0, x1, x2, f0, f1, f2⟩ := hb9.cells; clear hb9)
    go_roundw
    case rel => exact ⟨k + 1, _, _, S9, by omega, by first | rfl | go_num, ⟨Hm9.out.own, Hm9.out.box, Hm9.out.nb, Hm9.out.cur.mono (by omega), Hm9.out.far⟩, Hf.out.1, Hf.out.2.1, by have := Hf.out.2.2; simp; omega, Ho9.out, Hr9.out, Nat.le_trans HzA.out Hz9.out, Hn9.out, Hno9.out⟩
    case measure => simp [intOf]; omega
  ·obtain rfl : k = n.ends.length := by omega
   clear hlt hk
   obtain ⟨k0, k1, k2, -, -, -⟩ := Hm.out.box.cells
   obtain ⟨e0, e1', e2, f0, f1, f2⟩ := Hr.out.box.cells
   have Hret := Lib.hid (Hm.out.ret (rb := pb + 1) Hn1.out (by omega) hcb)
   go_wp2
   refine bodyPost_ret (v := .agg #[.slice E1 n.ends.length e1, .slice AI' n.ends.length cI', .slice EN n.inputs.length eN]) (by simp [results, Tryz.results157, go_sem, *]) rfl ?_
   obtain ⟨r1, r2, r3⟩ := Hret.out
   exact ⟨_, _, _, N, S, rfl, r1, Hf.out, r2.mono (by omega), r3⟩
end Go.Proofs.YtgmdpppljkmabaaGreat
namespace Go.Proofs.YtgmdpppljkmabaaGreat
open Go Go.RowKit
/-! a bent network: the variable, the result's box, bounds alone -/
theorem set_same {w : World} {g i : Nat} {v : Value} (h : w.cell? ⟨g, i, none⟩ = some v) (k : Nat) : (w.setCell ⟨g, i, none⟩ v).heap[k]? = w.heap[k]? := by
 by_cases e : k = g
 ·subst e
  unfold World.cell? at h
  cases hb : w.heap[k]? with
  | none => rw [show w.heap[(⟨k, i, none⟩ : Addr).block]? = none from hb] at h; simp at h
  | some o =>
   rw [show w.heap[(⟨k, i, none⟩ : Addr).block]? = some o from hb] at h
   cases o with
   | cells cs t fr =>
    have hc : cs[i]? = some v := by simpa using h
    have he : cs.setIfInBounds i v = cs := by
     apply Array.ext_getElem?
     intro j
     rw [Array.getElem?_setIfInBounds]
     by_cases hj : i = j
     ·subst hj
      rw [if_pos rfl, if_pos (Array.getElem?_eq_some_iff.1 hc).1, hc]
     ·rw [if_neg hj]
    simp [World.setCell, Array.getElem?_modify, hb, he]
   | _ => simp at h
 ·exact Below.heap_setCell _ _ _ _ e
theorem set_two {w : World} {g i : Nat} {v : Value} (h : w.cell? ⟨g, i, none⟩ = some v) (p : Addr) (u : Value) (k : Nat) : ((w.setCell ⟨g, i, none⟩ v).setCell p u).heap[k]? = (w.setCell p u).heap[k]? := by
 by_cases e : k = p.block
 ·have h1 := set_same h p.block
  subst e
  rw [show ((w.setCell ⟨g, i, none⟩ v).setCell p u).heap[p.block]? = _ from by unfold World.setCell; exact Array.getElem?_modify ..]
  rw [show (w.setCell p u).heap[p.block]? = _ from by unfold World.setCell; exact Array.getElem?_modify ..]
  rw [if_pos rfl, if_pos rfl]
  exact congrArg _ h1
 ·rw [Below.heap_setCell _ _ _ _ e, Below.heap_setCell _ _ _ _ e, set_same h]
theorem cell_oth {w : World} {g i j : Nat} (hij : i ≠ j) (u : Value) : (w.setCell ⟨g, i, none⟩ u).cell? ⟨g, j, none⟩ = w.cell? ⟨g, j, none⟩ := by
 unfold World.cell? World.setCell
 simp only [Array.getElem?_modify, if_true]
 cases w.heap[g]? with
 | none => rfl
 | some o => cases o <;> simp [hij]
theorem OwnNet.setPort {w : World} {base g c n : Nat} {vi vn : Value} {N : Net} {S : List Nat} (h : OwnNet w base (.slice (some ⟨g, 0, none⟩) n c) vi vn N S) {k : Nat} {es : List (Int × Int)} (hx : N.ends[k]? = some es) (hj : 0 < es.length) :
  ∃ gr cr, w.cell? ⟨g, k, none⟩ = some (.slice (some ⟨gr, 0, none⟩) es.length cr) ∧ gr ∈ S ∧ w.frozen? ⟨gr, 0, none⟩ = false ∧ w.frozen? ⟨gr, 1, none⟩ = false ∧ (∃ z, w.cell? ⟨gr, 0, none⟩ = some z) ∧ (∃ z, w.cell? ⟨gr, 1, none⟩ = some z) ∧
   (∀ x : Int, ∃ y, OwnNet (w.setCell ⟨gr, 0, none⟩ (.int .i64 x)) base (.slice (some ⟨g, 0, none⟩) n c) vi vn { N with ends := N.ends.set k (es.set 0 y) } S) ∧
   (∀ x : Int, ∃ y, OwnNet (w.setCell ⟨gr, 1, none⟩ (.int .i64 x)) base (.slice (some ⟨g, 0, none⟩) n c) vi vn { N with ends := N.ends.set k (es.set 0 y) } S) := by
 obtain ⟨gr, cr, h1, -, -, -, h2, -, ⟨f0, f1⟩, c0, c1, hall⟩ := h.setEnd hx hj
 simp only [Nat.zero_mul, Nat.zero_add] at f0 f1 c0 c1 hall
 obtain ⟨e, he⟩ := getx es 0 hj
 obtain ⟨u, T, hu, -, hR, -, -, -⟩ := h.rowCell hx
 rw [h1] at hu
 have hu := Option.some.inj hu
 subst hu
 obtain ⟨d0, d1, -⟩ := OwnE.cells hR he
 simp only [Nat.zero_mul, Nat.zero_add] at d0 d1
 refine ⟨gr, cr, h1, h2, f0, f1, c0, c1, fun x => ⟨(x, e.2), ?_⟩, fun x => ⟨(e.1, x), ?_⟩⟩
 ·refine (hall (x, e.2)).stable (fun q _ => ?_)
  exact (set_same (show (w.setCell ⟨gr, 0, none⟩ (.int .i64 x)).cell? ⟨gr, 1, none⟩ = some (.int .i64 e.2) by rw [cell_oth (by omega)]; exact d1) q).symm
 ·exact (hall (e.1, x)).stable (fun q _ => (set_two d0 _ _ q).symm)
structure Br (cb pb : Nat) (A : Option Addr) (L c P : Nat) (w W : World) (ve vi vn : Value) (N : Net) (S : List Nat) : Prop where
 mb : Mb cb w.heap.size pb A L c P w W ve vi vn N S
 rb : BoxN W (pb + 1) (.slice none 0 0) (.slice none 0 0) (.slice none 0 0)
 rn : pb + 1 ∉ S
 pe : pb = w.heap.size
 cbp : cb < pb
section
variable {cb pb : Nat} {A : Option Addr} {L c P : Nat} {w W : World} {ve vi vn : Value} {N : Net} {S : List Nat}
theorem Br.sz (h : Br cb pb A L c P w W ve vi vn N S) : w.heap.size ≤ W.heap.size := by have := h.rb.lt; have := h.pe; omega
theorem Br.seen {W' : World} {P' : Nat} (h : Br cb pb A L c P w W ve vi vn N S) (hs : Seen cb W W') (hcur : CurP W' cb A L c P') : Br cb pb A L c P' w W' ve vi vn N S :=
 ⟨h.mb.seen hs hcur (by have := h.pe; have := h.cbp; omega) (by have := h.pe; omega) h.sz, (hs.block _ h.rb.lt (by have := h.cbp; omega)).trans h.rb, h.rn, h.pe, h.cbp⟩
theorem Br.since {W' : World} (h : Br cb pb A L c P w W ve vi vn N S) (hs : Since W W') : Br cb pb A L c P w W' ve vi vn N S := h.seen (CB.of hs) (h.mb.cur.since hs)
theorem Br.up {P' : Nat} (h : Br cb pb A L c P w W ve vi vn N S) (hP : P ≤ P') : Br cb pb A L c P' w W ve vi vn N S := ⟨⟨h.mb.own, h.mb.box, h.mb.nb, h.mb.cur.mono hP, h.mb.far⟩, h.rb, h.rn, h.pe, h.cbp⟩
theorem Br.only {W' : World} {N' : Net} {S' : List Nat} {ve' vi' vn' : Value} (h : Br cb pb A L c P w W ve vi vn N S) (ho : OwnNet W' w.heap.size ve' vi' vn' N' S') (hS : ∀ j ∈ S', j ∈ S ∨ W.heap.size ≤ j) (hon : Only S W W') :
  Box3 W' pb ve vi vn ∧ pb ∉ S' ∧ pb + 1 ∉ S' ∧ BoxN W' (pb + 1) (.slice none 0 0) (.slice none 0 0) (.slice none 0 0) ∧ CurP W' cb A L c P ∧ CB cb w.heap.size w W' := by
 have hp := h.pe
 have hc := h.cbp
 have h1 := h.rb.lt
 have hbe : Below w.heap.size W W' := hon.below _ h.sz (fun k hk => (h.mb.own.range k hk).1)
 refine ⟨h.mb.box.blk (hon.block _ h.mb.box.lt h.mb.nb), fun hj => ?_, fun hj => ?_, (hon.block _ h1 h.rn).trans h.rb, h.mb.cur.keep (fun k hk => hbe.block k (by omega)), h.mb.far.trans (CB.of hbe)⟩
 ·rcases hS _ hj with h2 | h2
  ·exact h.mb.nb h2
  ·omega
 ·rcases hS _ hj with h2 | h2
  ·exact h.rn h2
  ·omega
theorem Br.own {W' : World} {N' : Net} {S' : List Nat} (h : Br cb pb A L c P w W ve vi vn N S) (ho : OwnNet W' w.heap.size ve vi vn N' S') (hS : ∀ j ∈ S', j ∈ S ∨ W.heap.size ≤ j) (hon : Only S W W') : Br cb pb A L c P w W' ve vi vn N' S' := by
 obtain ⟨a1, a2, a3, a4, a5, a6⟩ := h.only ho hS hon
 exact ⟨⟨ho, a1, a2, a5, a6⟩, a4, a3, h.pe, h.cbp⟩
theorem Br.put0 {W' : World} {N' : Net} {S' : List Nat} {v' : Value} (h : Br cb pb A L c P w W ve vi vn N S) (ho : OwnNet W' w.heap.size v' vi vn N' S') (hS : ∀ j ∈ S', j ∈ S ∨ W.heap.size ≤ j) (hon : Only S W W') :
  Box3 W' pb ve vi vn ∧ Br cb pb A L c P w (W'.setCell ⟨pb, 0, none⟩ v') v' vi vn N' S' := by
 obtain ⟨a1, a2, a3, a4, a5, a6⟩ := h.only ho hS hon
 have hp := h.pe
 have hc := h.cbp
 refine ⟨a1, ⟨⟨ho.stable (fun k hk => Below.heap_setCell _ _ _ _ (fun e => a2 (by have e' : k = pb := e; exact e' ▸ hk))), a1.put0, a2, a5.keep (fun k hk => Below.heap_setCell _ _ _ _ (by show k ≠ pb; omega)), a6.setCell (p := ⟨pb, 0, none⟩) (.inl (by show _ ≤ pb; omega)) _⟩, a4.other (by show pb + 1 ≠ pb; omega), a3, h.pe, h.cbp⟩⟩
theorem Br.put1 {W' : World} {N' : Net} {S' : List Nat} {v' : Value} (h : Br cb pb A L c P w W ve vi vn N S) (ho : OwnNet W' w.heap.size ve v' vn N' S') (hS : ∀ j ∈ S', j ∈ S ∨ W.heap.size ≤ j) (hon : Only S W W') :
  Box3 W' pb ve vi vn ∧ Br cb pb A L c P w (W'.setCell ⟨pb, 1, none⟩ v') ve v' vn N' S' := by
 obtain ⟨a1, a2, a3, a4, a5, a6⟩ := h.only ho hS hon
 have hp := h.pe
 have hc := h.cbp
 refine ⟨a1, ⟨⟨ho.stable (fun k hk => Below.heap_setCell _ _ _ _ (fun e => a2 (by have e' : k = pb := e; exact e' ▸ hk))), a1.put1, a2, a5.keep (fun k hk => Below.heap_setCell _ _ _ _ (by show k ≠ pb; omega)), a6.setCell (p := ⟨pb, 1, none⟩) (.inl (by show _ ≤ pb; omega)) _⟩, a4.other (by show pb + 1 ≠ pb; omega), a3, h.pe, h.cbp⟩⟩
theorem Br.put2 {W' : World} {N' : Net} {S' : List Nat} {v' : Value} (h : Br cb pb A L c P w W ve vi vn N S) (ho : OwnNet W' w.heap.size ve vi v' N' S') (hS : ∀ j ∈ S', j ∈ S ∨ W.heap.size ≤ j) (hon : Only S W W') :
  Box3 W' pb ve vi vn ∧ Br cb pb A L c P w (W'.setCell ⟨pb, 2, none⟩ v') ve vi v' N' S' := by
 obtain ⟨a1, a2, a3, a4, a5, a6⟩ := h.only ho hS hon
 have hp := h.pe
 have hc := h.cbp
 refine ⟨a1, ⟨⟨ho.stable (fun k hk => Below.heap_setCell _ _ _ _ (fun e => a2 (by have e' : k = pb := e; exact e' ▸ hk))), a1.put2, a2, a5.keep (fun k hk => Below.heap_setCell _ _ _ _ (by show k ≠ pb; omega)), a6.setCell (p := ⟨pb, 2, none⟩) (.inl (by show _ ≤ pb; omega)) _⟩, a4.other (by show pb + 1 ≠ pb; omega), a3, h.pe, h.cbp⟩⟩
theorem Br.putIds {W' : World} {T : List Nat} {v' : Value} {ids' : List Int} (h : Br cb pb A L c P w W ve vi vn N S) (ho : OwnI W' w.heap.size v' ids' T) (hon : Only vi.ownBlock.toList W W') (hT : ∀ j ∈ T, j ∈ vi.ownBlock.toList ∨ W.heap.size ≤ j) :
  Box3 W' pb ve vi vn ∧ ∃ S', Br cb pb A L c P w (W'.setCell ⟨pb, 1, none⟩ v') ve v' vn { N with ids := ids' } S' := by
 obtain ⟨S', hO', hS'⟩ := h.mb.own.turnIds ho hon hT
 obtain ⟨b1, b2⟩ := h.put1 hO' hS' (hon.mono (h.mb.ownIds.2))
 exact ⟨b1, S', b2⟩
theorem Br.putIn {W' : World} {T : List Nat} {v' : Value} {in' : List Int} (h : Br cb pb A L c P w W ve vi vn N S) (ho : OwnI W' w.heap.size v' in' T) (hon : Only vn.ownBlock.toList W W') (hT : ∀ j ∈ T, j ∈ vn.ownBlock.toList ∨ W.heap.size ≤ j) :
  Box3 W' pb ve vi vn ∧ ∃ S', Br cb pb A L c P w (W'.setCell ⟨pb, 2, none⟩ v') ve vi v' { N with inputs := in' } S' := by
 obtain ⟨S', hO', hS'⟩ := h.mb.own.turnIn ho hon hT
 obtain ⟨b1, b2⟩ := h.put2 hO' hS' (hon.mono (h.mb.ownIn.2))
 exact ⟨b1, S', b2⟩
theorem Br.assign {W1 : World} {P' : Nat} {a b d : Value} {N' : Net} {S' : List Nat} (h : Br cb pb A L c P w W ve vi vn N S) (hs : Seen cb W W1) (hcur : CurP W1 cb A L c P') (ho : OwnNet W1 W.heap.size a b d N' S') :
  Br cb pb A L c P' w (set3 W1 pb a b d) a b d N' S' := by
 have hp := h.pe
 have hc := h.cbp
 have h1 := h.rb.lt
 refine ⟨h.mb.assign hs hcur ho (by omega) (by omega) (by omega) h.sz, (set3_blk _ _ _ _ _ (by omega)).trans ((hs.block _ h.rb.lt (by omega)).trans h.rb), fun hj => ?_, h.pe, h.cbp⟩
 have := (ho.range _ hj).1
 omega
theorem Br.ret (h : Br cb pb A L c P w W ve vi vn N S) : OwnNet (set3 W (pb + 1) ve vi vn) w.heap.size ve vi vn N S ∧ CurP (set3 W (pb + 1) ve vi vn) cb A L c P ∧ CB cb w.heap.size w (set3 W (pb + 1) ve vi vn) := h.mb.ret h.rn (by have := h.pe; omega) (by have := h.pe; have := h.cbp; omega)
end
structure Bd (N : Net) : Prop where
 ends : N.ends.length ≤ 100
 row : ∀ (k : Nat) (es : List (Int × Int)), N.ends[k]? = some es → es.length ≤ 200
 ids : N.ids.length ≤ 200
 inputs : N.inputs.length ≤ 200
theorem Bd.small {n : Net} (h : Bd n) : SmallN n := by
 refine ⟨by have := h.ends; omega, fun k es he => by have := h.row k es he; omega, ?_⟩
 have h1 : cntEE n.ends ≤ 2 * 200 * n.ends.length := sum_le (fun es he => by
  obtain ⟨k, hk⟩ := List.getElem?_of_mem he
  exact h.row k es hk)
 have h2 := szEE_le n.ends
 have h3 : 2 * 200 * n.ends.length ≤ 2 * 200 * 100 := Nat.mul_le_mul (by omega) (by have := h.ends; omega)
 have := h.ends
 have := h.ids
 have := h.inputs
 unfold szNet
 omega
theorem Gd.bd {R M : Nat} {n : Net} (h : Gd R M n) (hR : R ≤ 200) (hM : M ≤ 100) : Bd n :=
 ⟨by have := h.ends; omega, fun k es he => by have := h.row k es he; omega, by have := h.ids; omega, by have := h.inputs; have := h.ends; omega⟩
theorem Bd.setRow {n : Net} (h : Bd n) (k : Nat) {es : List (Int × Int)} (he : es.length ≤ 200) : Bd { n with ends := n.ends.set k es } := by
 refine ⟨by simp; exact h.ends, fun j fs hf => ?_, h.ids, h.inputs⟩
 rw [List.getElem?_set] at hf
 split at hf
 ·split at hf
  ·cases hf; exact he
  ·cases hf
 ·exact h.row j fs hf
end Go.Proofs.YtgmdpppljkmabaaGreat
namespace Go.Proofs.YtgmdpppljkmabaaGreat
open Go Go.RowKit
/-! neEdges of a network that a draw makes -/
theorem row_netg {n : Net} {R M : Nat} (hn : Gd R M n) {v : Nat} (hv : v < n.ends.length) : n.ends[v]? = some (rowOf n v) ∧ (rowOf n v).length ≤ R ∧ True := by
 obtain ⟨es, hes⟩ := getx n.ends v hv
 have e : rowOf n v = es := getD_of hes
 rw [e]
 exact ⟨hes, hn.row v es hes, trivial⟩
theorem edgesTo_leng {n : Net} (hn : Gd 100 100 n) (v : Nat) : (edgesTo n v).length ≤ 100 * v := by
 induction v with
 | zero => simp [edgesTo]
 | succ v ih =>
  rw [edgesTo_succ, List.length_append]
  have h1 := erow_len v (rowOf n v) (rowOf n v).length
  have h2 : (rowOf n v).length ≤ 100 := by
   unfold rowOf
   rw [List.getD_eq_getElem?_getD]
   cases h : n.ends[v]? with
   | none => simp
   | some es => exact hn.row v es h
  omega
theorem edge_in {n : Net} {R M : Nat} (hn : Gd R M n) {e : Ed} (he : e ∈ edgesB n) : ∃ (a i b j : Nat) (fa fb : List (Int × Int)), e = ((a : Int), (i : Int), (b : Int), (j : Int)) ∧ n.ends[a]? = some fa ∧ i < fa.length ∧ n.ends[b]? = some fb ∧ j < fb.length := by
 obtain ⟨v, i, hv, hi, -, rfl⟩ := mem_edges.1 he
 obtain ⟨r1, -, -⟩ := row_netg hn hv
 obtain ⟨x, hx⟩ := getx (rowOf n v) i hi
 rw [getD_of hx]
 obtain ⟨b, j, fs, h1, h2, h3⟩ := hn.wf v _ r1 x (List.mem_of_getElem? hx)
 exact ⟨v, i, b, j, rowOf n v, fs, by rw [h1], r1, hi, h2, h3⟩
theorem neFirst_g (ve vi vn : Value) (n : Net) (v i : Nat) (x1 x2 : Int) (w : World) (h : NetIn w ve vi vn n) (hn : Gd 100 100 n) (hv : v < n.ends.length) (hx : (rowOf n v)[i]? = some (x1, x2)) :
  Calls Tryz.prog 218 #[.agg #[ve, vi, vn], .int .i64 v, .int .i64 i] w fun e w' => e = .returned (.bool (keepE v i (x1, x2))) ∧ Below w.heap.size w w' := by
 have hnl := hn.ends
 obtain ⟨w0, hw0⟩ : ∃ w0, w0 = (w).alloc (.cells #[ve, vi, vn] 27) := ⟨_, rfl⟩
 have hb0 : Below w.heap.size w w0 := by rw [hw0]; exact ((Below.refl _ _).alloc (by simp) _)
 have H := Lib.hid (h.keep hb0)
 obtain ⟨h1, h2, h3⟩ := h.keep hb0
 obtain ⟨A, c, rfl, hlc, hm, hA⟩ := h1
 obtain ⟨A2, c2, rfl, _, hm2, _⟩ := h2
 obtain ⟨A3, c3, rfl, _, hm3, _⟩ := h3
 unfold maxLen at hm hm2 hm3
 have p00 : ∀ W, Since w0 W → W.cell? ⟨w.heap.size, 0, none⟩ = some (.slice A n.ends.length c) := have_cell (by rw [hw0]; simp)
 have p01 : ∀ W, Since w0 W → W.cell? ⟨w.heap.size, 1, none⟩ = some (.slice A2 n.ids.length c2) := have_cell (by rw [hw0]; simp)
 have p02 : ∀ W, Since w0 W → W.cell? ⟨w.heap.size, 2, none⟩ = some (.slice A3 n.inputs.length c3) := have_cell (by rw [hw0]; simp)
 have Hb0 := Lib.hid hb0
 have Hw0 := Lib.hid hw0
 have HA := Lib.hid hA
 clear hA h
 clear hb0 hw0
 obtain ⟨row1, row2, row3⟩ := row_netg hn hv
 obtain ⟨es, hes⟩ : ∃ es, es = rowOf n v := ⟨_, rfl⟩
 rw [← hes] at row1 row2 hx
 have hil := lt_of_get hx
 obtain ⟨b, offr, cr, ur, hA1, hkr, hc1, hrow⟩ := row_at H.out.es row1
 cases hA1
 have tr := have_cell hc1
 obtain ⟨A1, z1, rfl, hz1, hz2, hA1⟩ := hrow
 unfold maxLen at hz2
 obtain ⟨b1, off1, rfl, hd1, hd2⟩ := hA1 i _ hx
 have t1 := have_cell hd1
 have t2 := have_cell hd2
 obtain ⟨w1, hw1⟩ : ∃ w1, w1 = w0.alloc (.cells #[.int .i64 x1, .int .i64 x2] 83) := ⟨_, rfl⟩
 have Hw1 := Lib.hid hw1
 have hs1 : Since w0 w1 := by rw [hw1]; exact since_alloc _ (since_refl _)
 have q0 : ∀ W, Since w1 W → W.cell? ⟨w0.heap.size, 0, none⟩ = some (.int .i64 x1) := have_cell (by rw [hw1]; simp)
 have q1 : ∀ W, Since w1 W → W.cell? ⟨w0.heap.size, 1, none⟩ = some (.int .i64 x2) := have_cell (by rw [hw1]; simp)
 have Hs1 := Lib.hid hs1
 have hs0 : Since w0 w0 := since_refl _
 have HR : Hid (keepE v i (x1, x2) = (decide ((v : Int) < x1) || (((v : Int) == x1) && decide ((i : Int) ≤ x2)))) := rfl
 clear row1 row2 row3 hes hx hc1 hd1 hd2 hA1 hn hw1 hs1
 go_enter Tryz.func218, Tryz.ntmps218
 go_upto_region 1 with (fail)
 rw [← Hw0.out]
 go_upto_region 2 with (fail)
 rw [← Hw1.out]
 clear p00 p01 p02 tr t1 t2 hs0
 refine wp_region_flow0 17 (Since w1) (since_refl _) ?_
 simp only [List.take_succ_cons, List.take_zero, List.drop_succ_cons, List.drop_zero]
 refine flow_val (v := ?_) rfl ?_ ?_; rotate_left; (intro W hW; go_simp; with_reducible rfl)
 simp only [zA]
 refine flow_val (v := ?_) rfl ?_ ?_; rotate_left; (intro W hW; go_simp; with_reducible rfl)
 simp only [zA]
 refine flow_val (v := ?_) rfl ?_ ?_; rotate_left; (intro W hW; go_simp; with_reducible rfl)
 simp only [zA]
 refine flow_val (v := ?_) rfl ?_ ?_; rotate_left; (intro W hW; go_simp; with_reducible rfl)
 simp only [zA]
 refine flow_val (v := ?_) rfl ?_ ?_; rotate_left; (intro W hW; go_simp; with_reducible rfl)
 simp only [zA]
 refine flow_gval (v := ?_) rfl rfl ?_ ?_; rotate_left; (intro hb; intro W hW; go_simp; with_reducible rfl)
 simp only [zA]
 refine flow_gval (v := ?_) rfl rfl ?_ ?_; rotate_left; (intro hb; intro W hW; go_simp; with_reducible rfl)
 simp only [zA]
 refine flow_gval (v := ?_) rfl rfl ?_ ?_; rotate_left; (intro hb; intro W hW; go_simp; with_reducible rfl)
 simp only [zA]
 refine flow_gval (v := ?_) rfl rfl ?_ ?_; rotate_left; (intro hb; intro W hW; go_simp; with_reducible rfl)
 simp only [zA]
 refine flow_gval (v := ?_) rfl rfl ?_ ?_; rotate_left; (intro hb; intro W hW; go_simp; with_reducible rfl)
 simp only [zA]
 refine flow_gval2 (v := ?_) rfl rfl ?_ ?_; rotate_left; (intro hb hb2; intro W hW; go_simp; with_reducible rfl)
 simp only [zA]
 refine flow_gval2 (v := ?_) rfl rfl ?_ ?_; rotate_left; (intro hb hb2; intro W hW; go_simp; with_reducible rfl)
 simp only [zA]
 refine flow_gval2 (v := ?_) rfl rfl ?_ ?_; rotate_left; (intro hb hb2; intro W hW; go_simp; with_reducible rfl)
 simp only [zA]
 refine flow_gval2 (v := ?_) rfl rfl ?_ ?_; rotate_left; (intro hb hb2; intro W hW; go_simp; with_reducible rfl)
 simp only [zA]
 refine flow_gand rfl rfl rfl ?_
 simp only [zA]
 first | refine flow_or rfl rfl ?_ | (refine flow_val (v := ?_) rfl ?_ ?_; rotate_left; (intro W hW; go_simp; with_reducible rfl))
 simp only [zA]
 refine flow_val (v := ?_) rfl ?_ ?_; rotate_left; (intro W hW; go_simp; with_reducible rfl)
 simp only [zA]
 intro W hW
 have HW := Lib.hid hW
 clear hW
 go_wp2
 go_ret
 exact ⟨congrArg (fun b => Ending.returned (.bool b)) HR.out.symm, Since.after Hb0.out (Hs1.out.after HW.out)⟩
/-! lists of lists of four numbers -/
theorem row_info : (Tryz.prog.info? 25).map (fun i => (i.zero, i.size, i.bytes)) = some (some (.slice none 0 0), 1, 24) := by kernel_rfl
def four (x : Ed) : Obj := .cells #[.int .i64 x.1, .int .i64 x.2.1, .int .i64 x.2.2.1, .int .i64 x.2.2.2] 3
def rowV (b : Nat) : Value := .slice (some ⟨b, 0, none⟩) 4 4
def OwnL (W : World) (base : Nat) (u : Value) (L : List Ed) : Prop :=
 ∃ bs : List Nat, bs.length = L.length ∧ W.ownsRow base 25 1 u L.length (bs.map rowV) ∧ ∀ (k : Nat) (x : Ed) (b : Nat), L[k]? = some x → bs[k]? = some b → base ≤ b ∧ W.heap[b]? = some (four x) ∧ u.ownBlock ≠ some b
theorem ownL_nil (W : World) (base : Nat) : OwnL W base (.slice none 0 0) [] := ⟨[], rfl, World.ownsRow_nil W base _ _, fun k x b hx => by simp at hx⟩
theorem OwnL.stable {W W' : World} {base : Nat} {u : Value} {L : List Ed} (h : OwnL W base u L) (hk : ∀ j, base ≤ j → j < W.heap.size → W'.heap[j]? = W.heap[j]?) : OwnL W' base u L := by
 obtain ⟨bs, h1, h2, h3⟩ := h
 refine ⟨bs, h1, ownsRow_stable h2 fun j hj => hk j (World.ownsRow.lt h2 j (by simpa using hj)).1 (World.ownsRow.lt h2 j (by simpa using hj)).2, fun k x b hx hb => ?_⟩
 obtain ⟨q1, q2, q3⟩ := h3 k x b hx hb
 exact ⟨q1, by rw [hk b q1 (Array.getElem?_eq_some_iff.1 q2).1]; exact q2, q3⟩
theorem OwnL.keep {W W' : World} {base : Nat} {u : Value} {L : List Ed} (h : OwnL W base u L) (hs : Since W W') : OwnL W' base u L := h.stable fun j _ hj => hs.below.block j hj
theorem OwnL.at {W : World} {base : Nat} {u : Value} {L : List Ed} (h : OwnL W base u L) : (∃ A c, u = .slice A L.length c ∧ L.length ≤ c ∧ c ≤ maxLen) ∧ ∀ (k : Nat) (x : Ed), L[k]? = some x → ∃ g c b, u = .slice (some ⟨g, 0, none⟩) L.length c ∧ W.cell? ⟨g, k, none⟩ = some (rowV b) ∧ base ≤ b ∧ W.cell? ⟨b, 0, none⟩ = some (.int .i64 x.1) ∧ W.cell? ⟨b, 1, none⟩ = some (.int .i64 x.2.1) ∧ W.cell? ⟨b, 2, none⟩ = some (.int .i64 x.2.2.1) ∧ W.cell? ⟨b, 3, none⟩ = some (.int .i64 x.2.2.2) := by
 obtain ⟨bs, h1, h2, h3⟩ := h
 have h' := h2
 rcases h2.2 with ⟨rfl, hn⟩ | ⟨g, cap, cur, rfl, hb, hg, hnc, hcm, hsz, htk⟩
 ·have : L = [] := List.eq_nil_of_length_eq_zero hn
  subst this
  exact ⟨⟨none, 0, rfl, Nat.le_refl _, Nat.zero_le _⟩, fun k x hk => by simp at hk⟩
 ·refine ⟨⟨_, cap, rfl, hnc, hcm⟩, fun k x hk => ?_⟩
  have hkl := lt_of_get hk
  obtain ⟨b, hbk⟩ : ∃ b, bs[k]? = some b := ⟨_, List.getElem?_eq_getElem (by omega)⟩
  obtain ⟨q1, q2, q3⟩ := h3 k x b hk hbk
  refine ⟨g, cap, b, rfl, ?_, q1, ?_⟩
  ·rw [World.ownsRow.cellAt (cap := cap) h' _ (by omega), List.getElem?_map, hbk]; rfl
  ·unfold four at q2
   simp [World.cell?, q2]
theorem app_row {w w0 : World} {ops : Array Oper} {rest : List Oper} {o : Oper} {a : Act} {Q : Exit → Act → World → Prop} (hgd : o.guard = none) (s x : Operand)
  (ho : o.op = .call { callee := .builtin .append, args := #[s, x], argTypes := #[30, 30] }) {v : Value} {L : List Ed} (hs : a.eval s = v) (h : OwnL w w0.heap.size v L) (b r : Nat) (y : Ed)
  (hx : a.eval x = .slice (some ⟨b, 0, none⟩) 1 1) (hc : w.cell? ⟨b, 0, none⟩ = some (rowV r)) (hr : w0.heap.size ≤ r) (hr2 : w.heap[r]? = some (four y)) (hr3 : v.ownBlock ≠ some r) (hl : L.length + 1 ≤ 1000000) (hsn : Since w0 w)
  (k : ∀ g cap w', OwnL w' w0.heap.size (.slice (some ⟨g, 0, none⟩) (L.length + 1) cap) (L ++ [y]) → Since w0 w' → wpList Tryz.prog ops Q rest (a.put o.dst (.slice (some ⟨g, 0, none⟩) (L.length + 1) cap)) w') : wpList Tryz.prog ops Q (o :: rest) a w := by
 obtain ⟨i0, hi, hz0, hz1, hz2⟩ := info_parts row_info
 obtain ⟨bs, h1, h2, h3⟩ := h
 refine wpList_append_lies w hgd s x 30 ho w0.heap.size 25 i0 _ 1 24 Tryz.underlying30 hi hz0 hz1 hz2 rfl (by decide) v L.length (bs.map rowV) hs h2 ⟨b, 0, none⟩ 1 1 [rowV r] hx rfl
  (by intro j u hj; match j, hj with | 0, hj => (simp at hj; subst hj; simpa [Addr.add] using hc) | j + 1, hj => simp at hj) (by simp [Value.oneCell', rowV]) (by omega) (by unfold maxLen; omega) (by omega) hsn.below.size w.heap.size rfl ?_
 intro g cap w' q1 q2 q3 q4
 refine k g cap w' ⟨bs ++ [r], by simp [h1], by simpa using q1, fun k x b' hx hb => ?_⟩ (Below.grown hsn q2 hsn.below.size (fun q hq => (World.ownsRow.lt h2 q hq).1))
 have hrl : r < w.heap.size := (Array.getElem?_eq_some_iff.1 hr2).1
 have hgr : g ≠ r := fun e => by
  subst e
  rcases q3 with q3 | q3
  ·exact hr3 q3
  ·omega
 rcases Nat.lt_or_ge k L.length with hk | hk
 ·rw [List.getElem?_append_left hk] at hx
  rw [List.getElem?_append_left (by omega)] at hb
  obtain ⟨p1, p2, p3⟩ := h3 k x b' hx hb
  have hbl := (Array.getElem?_eq_some_iff.1 p2).1
  refine ⟨p1, by rw [q2.block b' hbl (fun e => p3 e.symm)]; exact p2, fun e => ?_⟩
  have e2 : g = b' := by simpa [Value.ownBlock] using e
  subst e2
  rcases q3 with q3 | q3
  ·exact p3 q3
  ·omega
 ·have hk1 : k = L.length := by
   have := lt_of_get hx
   simp at this; omega
  subst hk1
  rw [List.getElem?_append_right (Nat.le_refl _), Nat.sub_self] at hx
  rw [← h1, List.getElem?_append_right (Nat.le_refl _), Nat.sub_self] at hb
  simp at hx hb
  subst hx hb
  refine ⟨hr, by rw [q2.block r hrl (fun e => hr3 e.symm)]; exact hr2, fun e => hgr ?_⟩
  simpa [Value.ownBlock] using e
set_option maxRecDepth 100000 in
set_option maxHeartbeats 3200000 in
theorem neEdges_g (ve vi vn : Value) (n : Net) (w : World) (h : NetIn w ve vi vn n) (hn : Gd 100 100 n) :
  Calls Tryz.prog 194 #[.agg #[ve, vi, vn]] w fun e w' => ∃ u, e = .returned u ∧ OwnL w' w.heap.size u (edgesB n) ∧ Below w.heap.size w w' := by
 have hn40 : n.ends.length ≤ 100 := hn.ends
 obtain ⟨w0, hw0⟩ : ∃ w0, w0 = (w).alloc (.cells #[ve, vi, vn] 27) := ⟨_, rfl⟩
 have hb0 : Below w.heap.size w w0 := by rw [hw0]; exact ((Below.refl _ _).alloc (by simp) _)
 have H := Lib.hid (h.keep hb0)
 obtain ⟨h1, h2, h3⟩ := h.keep hb0
 obtain ⟨A, c, rfl, hlc, hm, hA⟩ := h1
 obtain ⟨A2, c2, rfl, _, hm2, _⟩ := h2
 obtain ⟨A3, c3, rfl, _, hm3, _⟩ := h3
 unfold maxLen at hm hm2 hm3
 have p00 : ∀ W, Since w0 W → W.cell? ⟨w.heap.size, 0, none⟩ = some (.slice A n.ends.length c) := have_cell (by rw [hw0]; simp)
 have p01 : ∀ W, Since w0 W → W.cell? ⟨w.heap.size, 1, none⟩ = some (.slice A2 n.ids.length c2) := have_cell (by rw [hw0]; simp)
 have p02 : ∀ W, Since w0 W → W.cell? ⟨w.heap.size, 2, none⟩ = some (.slice A3 n.inputs.length c3) := have_cell (by rw [hw0]; simp)
 have Hb0 := Lib.hid hb0
 have Hw0 := Lib.hid hw0
 have HA := Lib.hid hA
 clear hA h
 clear hb0 hw0
 have Hn := Lib.hid hn
 have HLn := Lib.hid (edgesTo_leng hn)
 have hs0 : Since w0 w0 := since_refl _
 clear hn
 go_enter Tryz.func194, Tryz.ntmps194
 go_upto_region 1 with (fail)
 rw [← Hw0.out]
 go_wp2
 go_loopw [3, 11] (fun u i wr => ∃ k : Nat, k ≤ n.ends.length ∧ i = .int .i64 k ∧ OwnL wr w0.heap.size u (edgesTo n k) ∧ Since w0 wr) (fun _ i _ => n.ends.length - (intOf i).toNat)
 case atStart => exact ⟨0, Nat.zero_le _, rfl, ownL_nil _ _, hs0⟩
 case round =>
  obtain ⟨k, hk, rfl, ho, hsr⟩ := hrel
  have Ho := Lib.hid ho
  clear ho hs0
  by_cases hlt : k < n.ends.length
  ·obtain ⟨row1, row2, row3⟩ := row_netg Hn.out hlt
   obtain ⟨es, hes⟩ : ∃ es, es = rowOf n k := ⟨_, rfl⟩
   have Hes := Lib.hid hes
   rw [← hes] at row1 row2
   obtain ⟨b, offr, cr, ur, hA1, hkr, hc1, hrow⟩ := row_at H.out.es row1
   cases hA1
   have d0 := hsr.cell hc1
   obtain ⟨A1, z1, rfl, hz1, hz2, hA1⟩ := hrow
   unfold maxLen at hz2
   have HA1 := Lib.hid hA1
   have m3 : IntKind.i64.wrap ((k : Int) + 1) = (k : Int) + 1 := wr64 _ (by omega) (by omega)
   clear row1 row3 hes hc1 hA1
   go_wp2
   go_loopw [3, 18] (fun u i wr => ∃ j : Nat, j ≤ es.length ∧ i = .int .i64 j ∧ OwnL wr w0.heap.size u (edgesTo n k ++ erow k es j) ∧ Since w0 wr) (fun _ i _ => es.length - (intOf i).toNat)
   case atStart => exact ⟨0, Nat.zero_le _, rfl, by simpa [erow] using Ho.out, hsr⟩
   case round =>
    obtain ⟨j, hj, rfl, ho, hsr2⟩ := hrel
    have Ho2 := Lib.hid ho
    clear ho hsr d0
    by_cases hlt2 : j < es.length
    ·obtain ⟨⟨x1, x2⟩, hx⟩ := getx es j hlt2
     obtain ⟨b1, off1, rfl, hd1, hd2⟩ := HA1.out j _ hx
     have t1 := hsr2.cell hd1
     have t2 := hsr2.cell hd2
     simp only at t1 t2
     have m4 : IntKind.i64.wrap ((j : Int) + 1) = (j : Int) + 1 := wr64 _ (by omega) (by omega)
     obtain ⟨LL, hLL⟩ : ∃ LL, LL = edgesTo n k ++ erow k es j := ⟨_, rfl⟩
     have hLl : LL.length ≤ 100000 := by
      rw [hLL, List.length_append]
      have h1 := HLn.out k
      have h2 := erow_len k es j
      omega
     rw [← hLL] at Ho2
     have Hnx : Hid (edgesTo n k ++ erow k es (j + 1) = LL ++ eone k j (x1, x2)) := by show _ = _; rw [erow_succ, getD_of hx, hLL, List.append_assoc]
     obtain ⟨w5, hw5⟩ : ∃ w5, w5 = wr.alloc (.cells #[.int .i64 x1, .int .i64 x2] 83) := ⟨_, rfl⟩
     have hs5 : Since wr w5 := by rw [hw5]; exact since_alloc _ (since_refl _)
     have z0 : ∀ W, Since w5 W → W.cell? ⟨wr.heap.size, 0, none⟩ = some (.int .i64 x1) := have_cell (by rw [hw5]; simp)
     have z1' : ∀ W, Since w5 W → W.cell? ⟨wr.heap.size, 1, none⟩ = some (.int .i64 x2) := have_cell (by rw [hw5]; simp)
     have hs05 := hsr2.after hs5
     obtain ⟨zb, hzb⟩ : ∃ zb, zb = keepE k j (x1, x2) := ⟨_, rfl⟩
     have hcall := neFirst_g _ _ _ n k j x1 x2 w5 (H.out.keep hs05.below) Hn.out hlt (by rw [← Hes.out]; exact hx)
     rw [← hzb] at hcall
     have Hcall := Lib.hid hcall
     have Hzb := Lib.hid hzb
     have Hw5 := Lib.hid hw5
     have Ho5 := Lib.hid (Ho2.out.keep hs5)
     clear hx hd1 hd2 hLL hcall hzb hw5 hs5
     go_upto_region 8 with (fail)
     rw [← Hw5.out]
     clear hsr2 t1 t2
     go_wp2_with fail
     refine Hcall.out.mono ?_
     rintro e w6 ⟨rfl, hb6⟩
     have hs56 : Since w5 w6 := hb6
     have hs6 : Since w0 w6 := hs05.trans hb6
     have Ho6 := Lib.hid (Ho5.out.keep hs56)
     have y0 := lift_cell z0 hs56
     have y1 := lift_cell z1' hs56
     have h66 : Since w6 w6 := since_refl _
     clear hb6 hs05 z0 z1' hs56
     cases zb
     ·have Hn2 : Hid (edgesTo n k ++ erow k es (j + 1) = LL) := by show _ = _; rw [Hnx.out]; unfold eone; rw [← Hzb.out]; simp
      clear y0 y1 h66
      go_wp2
      go_roundw
      case rel => exact ⟨j + 1, by omega, by go_num, by rw [Hn2.out]; exact Ho6.out, hs6⟩
      case measure => simp [intOf]; omega
     ·have Hn2 : Hid (edgesTo n k ++ erow k es (j + 1) = LL ++ [((k : Int), (j : Int), x1, x2)]) := by show _ = _; rw [Hnx.out]; unfold eone; rw [← Hzb.out, if_pos rfl]
      obtain ⟨w8, hw8⟩ : ∃ w8, w8 = (w6.alloc (four ((k : Int), (j : Int), x1, x2))).alloc (.cells #[rowV w6.heap.size] 25) := ⟨_, rfl⟩
      have hs8 : Since w0 w8 := by rw [hw8]; exact since_alloc _ (since_alloc _ hs6)
      have Ho8 : Hid (OwnL w8 w0.heap.size u3 LL) := by show OwnL _ _ _ _; rw [hw8]; exact Ho6.out.keep (since_alloc _ (since_alloc _ (since_refl _)))
      have c8 : w8.cell? ⟨w6.heap.size + 1, 0, none⟩ = some (rowV w6.heap.size) := by rw [hw8]; simp
      have r8 : w8.heap[w6.heap.size]? = some (four ((k : Int), (j : Int), x1, x2)) := by
       have h1 : (w6.alloc (four ((k : Int), (j : Int), x1, x2))).heap[w6.heap.size]? = some (four ((k : Int), (j : Int), x1, x2)) := heap_alloc_new w6 _
       have h2 : Since (w6.alloc (four ((k : Int), (j : Int), x1, x2))) w8 := by rw [hw8]; exact since_alloc _ (since_refl _)
       rw [h2.below.block _ (Array.getElem?_eq_some_iff.1 h1).1]; exact h1
      have n8 : u3.ownBlock ≠ some w6.heap.size := fun e => by
       obtain ⟨bs, _, q, _⟩ := Ho6.out
       have := (World.ownsRow.lt q _ e).2
       omega
      have Hc8 := Lib.hid (And.intro c8 (And.intro r8 n8))
      have Hs8 := Lib.hid hs8
      have g6 : w0.heap.size ≤ w6.heap.size := (Since.below hs6).size
      have hl8 : LL.length + 1 ≤ 1000000 := by omega
      have Hw8 := Lib.hid hw8
      unfold four rowV at hw8
      clear hs8 c8 r8 n8
      go_wp2_with (at_builtin; rw [← hw8]; refine app_row rfl _ _ rfl rfl Ho8.out (w6.heap.size + 1) w6.heap.size ((k : Int), (j : Int), x1, x2) rfl Hc8.out.1 g6 Hc8.out.2.1 Hc8.out.2.2 hl8 Hs8.out ?_; intro g9 cc9 w9 ho9 hs9)
      have Ho9 := Lib.hid ho9
      have Hs9 := Lib.hid hs9
      clear ho9 hs9 hs6 y0 y1 h66 hw8
      go_wp2
      go_roundw
      case rel => exact ⟨j + 1, by omega, by go_num, by rw [Hn2.out]; exact Ho9.out, Hs9.out⟩
      case measure => simp [intOf]; omega
    ·have Hnx : Hid (edgesTo n (k + 1) = edgesTo n k ++ erow k es j) := by show _ = _; rw [edgesTo_succ, ← Hes.out, show j = es.length by omega]
     have hje : j = es.length := by omega
     clear hlt2
     subst hje
     go_wp2
     go_roundw
     case rel => exact ⟨k + 1, by omega, by go_num, by rw [Hnx.out]; exact Ho2.out, hsr2⟩
     case measure => simp [intOf]; omega
  ·obtain rfl : k = n.ends.length := by omega
   go_wp2
   go_ret
   exact ⟨_, rfl, by obtain ⟨bs, q1, q2, q3⟩ := Ho.out; exact ⟨bs, q1, ownsRow_mono q2 Hb0.out.size, fun k x b hx hb => ⟨Nat.le_trans Hb0.out.size (q3 k x b hx hb).1, (q3 k x b hx hb).2⟩⟩, Since.after Hb0.out hsr⟩
end Go.Proofs.YtgmdpppljkmabaaGreat
