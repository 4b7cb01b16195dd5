/- Parts of the proof: walks of functions and plain laws. -/
import Derived.Test.YtgmdpppljkmabaaGreatP0
import Derived.Test.YtgmdpppljkmabaaGreatP7
import Derived.Test.YtgmdpppljkmabaaGreatP17
namespace Go.Proofs.YtgmdpppljkmabaaGreat
open Go Go.RowKit
/-! an end is appended to a row of a copy (written by tools/dr1.py) -/
set_option maxHeartbeats 1000000 in
theorem neEmpty_any (n : Nat) (hn : n ≤ 1000000) (w : World) : Calls Tryz.prog 154 #[.int .i64 n] w (NewNet w (emptyNet n)) := by
 have m1 := run_mk_rows n hn
 have m2 := run_mk_ints n hn
 go_enter Tryz.func154, Tryz.ntmps154
 go_wp2
 go_region
 ·go_wp2
  refine bodyPost_ret (v := .agg #[.slice (some ⟨w.heap.size + 1, 0, none⟩) n n, .slice none 0 0, .slice (some ⟨w.heap.size + 1 + 1, 0, none⟩) n n]) (by simp [results, Tryz.results154, go_sem]) rfl ?_
  exact ⟨_, _, _, _, rfl, (ownNet_two w _ n hn).drew, (below3 _ _ _ _).drew⟩
 ·go_wp2
  refine bodyPost_ret (v := .agg #[.slice (some ⟨w.heap.size + 1 + 1, 0, none⟩) n n, .slice none 0 0, .slice (some ⟨w.heap.size + 1, 0, none⟩) n n]) (by simp [results, Tryz.results154, go_sem]) rfl ?_
  exact ⟨_, _, _, _, rfl, (ownNet_two' w _ n hn).drew, (below3 _ _ _ _).drew⟩
structure SmallN (n : Net) : Prop where
 ends : n.ends.length ≤ 1000
 row : ∀ (k : Nat) (es : List (Int × Int)), n.ends[k]? = some es → es.length ≤ 1000
 sz : szNet n ≤ 1048576
def rowN (n : Net) (v : Nat) : List (Int × Int) := n.ends.getD v []
def addE (n : Net) (v : Nat) (e : Int × Int) : Net := { n with ends := n.ends.set v (rowN n v ++ [e]) }
def stubN (n : Net) (v : Nat) : Net := addE n v ((v : Int), ((rowN n v).length : Int))
def joinN (n : Net) (v u : Nat) : Net := addE (addE n v ((u : Int), if v = u then ((rowN n u).length : Int) + 1 else ((rowN n u).length : Int))) u ((v : Int), ((rowN n v).length : Int))
theorem rowN_get {n : Net} {v : Nat} (hv : v < n.ends.length) : n.ends[v]? = some (rowN n v) := by
 unfold rowN
 rw [List.getD_eq_getElem?_getD, List.getElem?_eq_getElem hv]
 rfl
theorem addE_len (n : Net) (v : Nat) (e : Int × Int) : (addE n v e).ends.length = n.ends.length := by simp [addE]
theorem OwnNet.head {w : World} {base k c : Nat} {A : Option Addr} {vi vn : Value} {N : Net} {S : List Nat} (h : OwnNet w base (.slice A k c) vi vn N S) (h0 : 0 < N.ends.length) : ∃ g, A = some ⟨g, 0, none⟩ ∧ k = N.ends.length := by
 obtain ⟨S1, S2, S3, ⟨vs, Ss, h1, _⟩, _⟩ := h
 have h3 := ownsRow_cases h1
 rcases h3 with ⟨hv, h2⟩ | ⟨g, c', hv, _⟩
 ·omega
 ·cases hv
  exact ⟨g, rfl, rfl⟩
theorem add_end {wc w8 w9 : World} {base g c k v g9 cc : Nat} {vi vn u : Value} {N : Net} {S T : List Nat} {x : List (Int × Int)} {y : Int × Int}
  (hgrow : ∀ (u' : Value) (x' : List (Int × Int)) (T' : List Nat) (w' : World), OwnE w' base u' x' T' → Only T wc w' → (∀ j ∈ T', j ∈ T ∨ wc.heap.size ≤ j) → ∃ S', OwnNet (w'.setCell ⟨g, v, none⟩ u') base (.slice (some ⟨g, 0, none⟩) k c) vi vn { N with ends := N.ends.set v x' } S' ∧ ∀ j ∈ S', j ∈ S ∨ wc.heap.size ≤ j)
  (hR : OwnE wc base u x T) (h8 : Since wc w8) (ho9 : OwnE w9 base (.slice (some ⟨g9, 0, none⟩) (x.length + 1) cc) (x ++ [y]) [g9]) (hg9 : w8.grownBy w9 u.ownBlock) (hl9 : u.ownBlock = some g9 ∨ g9 = w8.heap.size) (hTS : ∀ j ∈ T, j ∈ S) (hgS : g ∈ S) :
  ∃ S', OwnNet (w9.setCell ⟨g, v, none⟩ (.slice (some ⟨g9, 0, none⟩) (x.length + 1) cc)) base (.slice (some ⟨g, 0, none⟩) k c) vi vn { N with ends := N.ends.set v (x ++ [y]) } S' ∧ (∀ j ∈ S', j ∈ S ∨ wc.heap.size ≤ j) ∧ Only S wc (w9.setCell ⟨g, v, none⟩ (.slice (some ⟨g9, 0, none⟩) (x.length + 1) cc)) := by
 have hT : T = u.ownBlock.toList := hR.2
 have h19 : Only T wc w9 := by rw [hT]; exact (Only.of_below h8).trans (Only.of_grown hg9)
 obtain ⟨S', h1, h2⟩ := hgrow _ _ _ _ ho9 h19 (fun j hj => by
  simp at hj; subst hj
  rcases hl9 with h | h
  ·left; rw [hT, h]; simp
  ·right; rw [h]; exact h8.size)
 exact ⟨S', h1, h2, (h19.mono hTS).setCell (.inl hgS) _⟩

set_option maxRecDepth 100000 in
set_option maxHeartbeats 8000000 in
theorem neStub_any (ve vi vn : Value) (n : Net) (v : Nat) (w : World) (h : NetIn w ve vi vn n) (hv : v < n.ends.length) (hn : SmallN n) :
  Calls Tryz.prog 193 #[.agg #[ve, vi, vn], .int .i64 v] w (NewNet w (stubN n v)) := by
 have HNs := Lib.hid hn
 clear hn
 obtain ⟨w0, hw0⟩ : ∃ w0, w0 = (w).alloc (.cells #[ve, vi, vn] 27) := ⟨_, rfl⟩
 have hb0 : Below w.heap.size w w0 := by rw [hw0]; exact ((Below.refl _ _).alloc (by simp) _)
 have H := Lib.hid (h.keep hb0)
 obtain ⟨h1, h2, h3⟩ := h.keep hb0
 obtain ⟨A, c, rfl, hlc, hm, hA⟩ := h1
 obtain ⟨A2, c2, rfl, _, hm2, _⟩ := h2
 obtain ⟨A3, c3, rfl, _, hm3, _⟩ := h3
 unfold maxLen at hm hm2 hm3
 have p00 : ∀ W, Since w0 W → W.cell? ⟨w.heap.size, 0, none⟩ = some (.slice A n.ends.length c) := have_cell (by rw [hw0]; simp)
 have p01 : ∀ W, Since w0 W → W.cell? ⟨w.heap.size, 1, none⟩ = some (.slice A2 n.ids.length c2) := have_cell (by rw [hw0]; simp)
 have p02 : ∀ W, Since w0 W → W.cell? ⟨w.heap.size, 2, none⟩ = some (.slice A3 n.inputs.length c3) := have_cell (by rw [hw0]; simp)
 have Hb0 := Lib.hid hb0
 have Hw0 := Lib.hid hw0
 have HA := Lib.hid hA
 clear hA h
 clear hb0 hw0
 obtain ⟨wa, hwa⟩ : ∃ wa, wa = w0.alloc (.cells #[.slice none 0 0, .slice none 0 0, .slice none 0 0] 27) := ⟨_, rfl⟩
 have hsa : Since w0 wa := by rw [hwa]; exact since_alloc _ (since_refl _)
 have h01 : w0.heap.size = w.heap.size + 1 := by rw [Hw0.out]; simp
 have Hza : Hid (wa.heap.size = w.heap.size + 1 + 1) := by show _ = _; rw [hwa, ← h01]; simp
 have HRb : Hid (∀ X, Since wa X → BoxN X (w.heap.size + 1) (.slice none 0 0) (.slice none 0 0) (.slice none 0 0)) := fun X hX => by
  refine BoxN.since (W := wa) ?_ hX
  rw [hwa, ← h01]
  show (w0.heap.push _)[w0.heap.size]? = _
  rw [Array.getElem?_push_size]
 have q00 := lift_cell p00 hsa
 have q01 := lift_cell p01 hsa
 have q02 := lift_cell p02 hsa
 have Hwa := Lib.hid hwa
 have Hsa := Lib.hid hsa
 have Hb1 : Hid (Below w.heap.size w wa) := Below.trans Hb0.out (hsa.below.mono Hb0.out.size)
 clear hwa hsa h01 p00 p01 p02
 go_enter Tryz.func193, Tryz.ntmps193
 go_upto_region 1 with (fail)
 rw [← Hw0.out, ← Hwa.out]
 have hs : Since wa wa := since_refl _
 go_wp2_with fail
 refine (neOwn_gen _ _ _ n wa (H.out.keep Hsa.out.below) HNs.out.ends HNs.out.row HNs.out.sz).mono ?_
 rintro e w1 ⟨we, wi, wn, S, rfl, ho, hb1⟩
 obtain ⟨A1, c1, rfl, -, -, -⟩ := id ho.read.1
 obtain ⟨AI, cI, rfl, -, -, -⟩ := id ho.read.2.1
 obtain ⟨AN, cN, rfl, -, -, -⟩ := id ho.read.2.2
 obtain ⟨g, rfl, -⟩ := ho.head (by omega)
 obtain ⟨base, hbase⟩ : ∃ base, base = wa.heap.size := ⟨_, rfl⟩
 rw [← hbase] at ho
 have hs1 : Since wa w1 := hs.trans hb1
 obtain ⟨w2, hw2⟩ : ∃ z, z = w1.alloc (.cells #[.slice (some ⟨g, 0, none⟩) n.ends.length c1, .slice AI n.ids.length cI, .slice AN n.inputs.length cN] 27) := ⟨_, rfl⟩
 obtain ⟨bo, hbo⟩ : ∃ z, z = w1.heap.size := ⟨_, rfl⟩
 have h12 : Since w1 w2 := by rw [hw2]; exact since_alloc _ (since_refl _)
 have hB2 : Box3 w2 bo (.slice (some ⟨g, 0, none⟩) n.ends.length c1) (.slice AI n.ids.length cI) (.slice AN n.inputs.length cN) := by rw [hw2, hbo]; exact Box3.new _ _ _ _ _
 have hN2 : bo ∉ S := fun hj => by have := (ho.range _ hj).2; omega
 have Hbase := Lib.hid hbase
 have Hw2 := Lib.hid hw2
 have Hbo := Lib.hid hbo
 have HO2 := Lib.hid (ho.keep h12.below)
 have HB2' := Lib.hid hB2
 have HN2 := Lib.hid hN2
 have Hs2 := Lib.hid (hs1.after h12)
 have Hbb : Hid (base ≤ bo ∧ bo < w2.heap.size) := ⟨by rw [hbase, hbo]; exact hs1.below.size, by rw [hw2, hbo]; simp⟩
 have hxv := rowN_get hv
 obtain ⟨xv, hxe⟩ : ∃ x, x = rowN n v := ⟨_, rfl⟩
 rw [← hxe] at hxv
 have Hxe := Lib.hid hxe
 have HX2 := Lib.hid hxv
 have Hxl : Hid (xv.length ≤ 1000) := HNs.out.row _ _ hxv
 clear hbase hw2 hbo ho hB2 hN2 hs1 h12 hb1 hs hxe hxv q00 q01 q02
 have hl1 := Hxl.out
 have HL2 : Hid (xv.length + 1 ≤ 1000000) := by show _ ≤ _; omega
 have HBs2 : Hid (base ≤ w2.heap.size) := by show _ ≤ _; have := Hbb.out; omega
 clear hl1
 go_upto_region 2 with (fail)
 rw [← Hw2.out, ← Hbo.out]
 obtain ⟨u2, T2, hu2, hf2, hR2, hTS2, hgT2, hgS2, hgrow2⟩ := HO2.out.growRow HX2.out
 obtain ⟨AU2, cU2, rfl, -, -, -⟩ := id hR2.read
 have HR2 := Lib.hid hR2
 have Hgrow2 := Lib.hid hgrow2
 have hgb2 : g ≠ bo := fun h => HN2.out (h ▸ hgS2)
 have Hgb2 := Lib.hid hgb2
 have HgT2 := Lib.hid hgT2
 have HgS2 := Lib.hid hgS2
 have HTS2 := Lib.hid hTS2
 have Hu2 := Lib.hid hu2
 have Hf2 := Lib.hid hf2
 have HbT2 : Hid (bo ∉ T2) := fun h => HN2.out (hTS2 _ h)
 have HB2 := Lib.hid (Box3.cells HB2'.out)
 clear hgb2 hgT2 hgS2 hTS2 hu2 hf2 hR2 hgrow2
 refine wp_region_chainS (fun W => W.cell? ⟨bo, 0, none⟩ = some (.slice (some ⟨g, 0, none⟩) n.ends.length c1) ∧ W.cell? ⟨g, v, none⟩ = some (.slice AU2 xv.length cU2)) 18 [false, false, false, false, false, false, false, false, false, false, false, false, false, false, false, false, true, true] (by kernel_rfl) (by kernel_rfl) (show (World.drew w2).cell? ⟨bo, 0, none⟩ = some (.slice (some ⟨g, 0, none⟩) n.ends.length c1) ∧ (World.drew w2).cell? ⟨g, v, none⟩ = some (.slice AU2 xv.length cU2) from ⟨HB2.out.1, Hu2.out⟩) ?_
 simp only [selF, selT, List.take_succ_cons, List.take_zero, List.drop_succ_cons, List.drop_zero]
 refine pflowS_val (v := ?_) rfl ?_ ?_; rotate_left; (intro W hW; (obtain ⟨k0, k1⟩ := hW); go_simp; with_reducible rfl)
 simp only [zA]
 refine pflowS_val (v := ?_) rfl ?_ ?_; rotate_left; (intro W hW; (obtain ⟨k0, k1⟩ := hW); go_simp; with_reducible rfl)
 simp only [zA]
 refine pflowS_val (v := ?_) rfl ?_ ?_; rotate_left; (intro W hW; (obtain ⟨k0, k1⟩ := hW); go_simp; with_reducible rfl)
 simp only [zA]
 refine pflowS_val (v := ?_) rfl ?_ ?_; rotate_left; (intro W hW; (obtain ⟨k0, k1⟩ := hW); go_simp; with_reducible rfl)
 simp only [zA]
 refine pflowS_val (v := ?_) rfl ?_ ?_; rotate_left; (intro W hW; (obtain ⟨k0, k1⟩ := hW); go_simp; with_reducible rfl)
 simp only [zA]
 refine pflowS_val (v := ?_) rfl ?_ ?_; rotate_left; (intro W hW; (obtain ⟨k0, k1⟩ := hW); go_simp; with_reducible rfl)
 simp only [zA]
 refine pflowS_val (v := ?_) rfl ?_ ?_; rotate_left; (intro W hW; (obtain ⟨k0, k1⟩ := hW); go_simp; with_reducible rfl)
 simp only [zA]
 refine pflowS_val (v := ?_) rfl ?_ ?_; rotate_left; (intro W hW; (obtain ⟨k0, k1⟩ := hW); go_simp; with_reducible rfl)
 simp only [zA]
 refine pflowS_val (v := ?_) rfl ?_ ?_; rotate_left; (intro W hW; (obtain ⟨k0, k1⟩ := hW); go_simp; with_reducible rfl)
 simp only [zA]
 refine pflowS_val (v := ?_) rfl ?_ ?_; rotate_left; (intro W hW; (obtain ⟨k0, k1⟩ := hW); go_simp; with_reducible rfl)
 simp only [zA]
 refine pflowS_val (v := ?_) rfl ?_ ?_; rotate_left; (intro W hW; (obtain ⟨k0, k1⟩ := hW); go_simp; with_reducible rfl)
 simp only [zA]
 refine pflowS_val (v := ?_) rfl ?_ ?_; rotate_left; (intro W hW; (obtain ⟨k0, k1⟩ := hW); go_simp; with_reducible rfl)
 simp only [zA]
 refine pflowS_val (v := ?_) rfl ?_ ?_; rotate_left; (intro W hW; (obtain ⟨k0, k1⟩ := hW); go_simp; with_reducible rfl)
 simp only [zA]
 refine pflowS_val (v := ?_) rfl ?_ ?_; rotate_left; (intro W hW; (obtain ⟨k0, k1⟩ := hW); go_simp; with_reducible rfl)
 simp only [zA]
 refine pflowS_val (v := ?_) rfl ?_ ?_; rotate_left; (intro W hW; (obtain ⟨k0, k1⟩ := hW); go_simp; with_reducible rfl)
 simp only [zA]
 refine pflowS_val (v := ?_) rfl ?_ ?_; rotate_left; (intro W hW; (obtain ⟨k0, k1⟩ := hW); go_simp; with_reducible rfl)
 simp only [zA]
 obtain ⟨W, hWd⟩ : ∃ W, W = World.drew w2 := ⟨_, rfl⟩
 rw [← hWd]
 have hW := (show (World.drew w2).cell? ⟨bo, 0, none⟩ = some (.slice (some ⟨g, 0, none⟩) n.ends.length c1) ∧ (World.drew w2).cell? ⟨g, v, none⟩ = some (.slice AU2 xv.length cU2) from ⟨HB2.out.1, Hu2.out⟩)
 rw [← hWd] at hW
 have HWd := Lib.hid hWd
 clear hWd
 refine tflow_allocS (v := ?_) (ob := ?_) rfl ?_ ?_ ?_; rotate_left 2
 (go_simp; first | with_reducible rfl | (refine ⟨?_, ?_⟩ <;> with_reducible rfl))
 exact ⟨bc (below_alloc _ _) hW.1, bc (below_alloc _ _) hW.2⟩
 intro w8 hw8d hw8s
 replace hW := hw8s
 clear hw8s
 have Hd8 : Hid (w8 = (World.drew w2).alloc (.cells #[.int .i64 (v : Int), .int .i64 (xv.length : Int)] 83)) := by show _ = _; rw [hw8d, HWd.out]
 have Hs8 : Hid (Since w2 w8) := by show Since _ _; rw [Hd8.out]; exact since_alloc _ (since_drew (since_refl _))
 have Ho8 : Hid (OwnE w8 base (.slice AU2 xv.length cU2) xv T2) := lawE.keep HR2.out Hs8.out.below
 have Hc8 : Hid (w8.cell? ⟨w2.heap.size, 0, none⟩ = some (.int .i64 (v : Int)) ∧ w8.cell? ⟨w2.heap.size, 1, none⟩ = some (.int .i64 (xv.length : Int))) := by show _ ∧ _; rw [Hd8.out]; exact cell_two (World.drew w2) _ _ _
 rw [show W.heap.size = w2.heap.size from by rw [HWd.out]; rfl]
 clear hw8d HWd
 (try simp only [zA])
 refine tflow_of_wp (fun Q' HQ => ?_)
 (refine app_endH (base := base) (v := .slice AU2 xv.length cU2) (xs := xv) rfl _ _ rfl rfl Ho8.out w2.heap.size ((v : Int), (xv.length : Int)) rfl Hc8.out.1 Hc8.out.2 HL2.out (Nat.le_trans HBs2.out Hs8.out.below.size) ?_); intro g9 cc9 w9 ho9 hg9 hl9; have hon9 := Only.of_grown hg9; have ht9 : (Value.slice AU2 xv.length cU2).ownBlock.toList = T2 := (HR2.out.2).symm; have hn1 : (⟨bo, 0, none⟩ : Addr).block ∉ (Value.slice AU2 xv.length cU2).ownBlock.toList := (by rw [ht9]; exact HbT2.out); have hn2 : (⟨g, v, none⟩ : Addr).block ∉ (Value.slice AU2 xv.length cU2).ownBlock.toList := (by rw [ht9]; exact HgT2.out); have hk1 := hon9.cell hn1 hW.1; have hk2 := hon9.cell hn2 hW.2; have hk3 := hon9.fz hn2 hW.2 (bf Hs8.out.below Hu2.out Hf2.out); refine HQ _ _ ⟨hk1, hk2⟩ ?_; have Hz9 := Lib.hid (add_end Hgrow2.out HR2.out Hs8.out ho9 hg9 hl9 HTS2.out HgS2.out); clear ho9 hg9 hl9 hn1 hn2 hon9 ht9 hW
 (try simp only [zA])
 simp only [TFlow]
 go_upto_region 3 with (fail)
 obtain ⟨Sw5, hz1, hz2, hz3⟩ := Hz9.out
 obtain ⟨w5, hw⟩ : ∃ z, z = w9.setCell ⟨g, v, none⟩ (.slice (some ⟨g9, 0, none⟩) (xv.length + 1) cc9) := ⟨_, rfl⟩
 rw [← hw] at hz1 hz3 ⊢
 have HOw5 := Lib.hid hz1
 have HSw5 := Lib.hid hz2
 have HNw5' := Lib.hid hz3
 clear hw hz1 hz2 hz3 Hz9 hk1 hk2 hk3
 have HOf : Hid (OwnNet w5 base (.slice (some ⟨g, 0, none⟩) n.ends.length c1) (.slice AI n.ids.length cI) (.slice AN n.inputs.length cN) (stubN n v) Sw5) := by show OwnNet _ _ _ _ _ _ _; unfold stubN addE; rw [← Hxe.out]; exact HOw5.out
 have HBf : Hid (Box3 w5 bo (.slice (some ⟨g, 0, none⟩) n.ends.length c1) (.slice AI n.ids.length cI) (.slice AN n.inputs.length cN)) := by obtain ⟨r, hr⟩ := HB2'.out; exact ⟨r, (HNw5'.out.block bo Hbb.out.2 HN2.out).trans hr⟩
 have HBel : Hid (Below base w2 w5) := HNw5'.out.below base HBs2.out (fun j hj => (HO2.out.range j hj).1)
 have hrw : BoxN w5 (w.heap.size + 1) (.slice none 0 0) (.slice none 0 0) (.slice none 0 0) := (HBel.out.block _ (by have h2 := Hbase.out; have h3 := Hza.out; omega)).trans (HRb.out w2 Hs2.out)
 obtain ⟨d0, d1, d2, -, -, -⟩ := HBf.out.cells
 obtain ⟨e0, e1, e2, f0, f1, f2⟩ := hrw.box.cells
 clear hrw
 go_wp2
 refine bodyPost_ret (v := .agg #[.slice (some ⟨g, 0, none⟩) n.ends.length c1, .slice AI n.ids.length cI, .slice AN n.inputs.length cN]) (by simp [results, Tryz.results193, go_sem, *]) rfl ?_
 have hbz := Hbase.out
 have hza := Hza.out
 refine ⟨_, _, _, _, rfl, (HOf.out.stable (fun j hj => ?_)).mono (show w.heap.size ≤ base by omega), ?_⟩
 ·have hj1 := (HOf.out.range j hj).1
  rw [Below.heap_setCell _ _ _ j (by simp; omega), Below.heap_setCell _ _ _ j (by simp; omega), Below.heap_setCell _ _ _ j (by simp; omega)]
 ·have hk : Below w.heap.size w w5 := (Below.trans Hb1.out (Hs2.out.below.mono (by omega))).trans (HBel.out.mono (by omega))
  exact ((hk.setCell (by simp) _).setCell (by simp) _).setCell (by simp) _

set_option maxRecDepth 100000 in
set_option maxHeartbeats 8000000 in
theorem neJoin_any (ve vi vn : Value) (n : Net) (v u : Nat) (w : World) (h : NetIn w ve vi vn n) (hv : v < n.ends.length) (hu0 : u < n.ends.length) (hn : SmallN n) :
  Calls Tryz.prog 155 #[.agg #[ve, vi, vn], .int .i64 v, .int .i64 u] w (NewNet w (joinN n v u)) := by
 have HNs := Lib.hid hn
 clear hn
 obtain ⟨w0, hw0⟩ : ∃ w0, w0 = (w).alloc (.cells #[ve, vi, vn] 27) := ⟨_, rfl⟩
 have hb0 : Below w.heap.size w w0 := by rw [hw0]; exact ((Below.refl _ _).alloc (by simp) _)
 have H := Lib.hid (h.keep hb0)
 obtain ⟨h1, h2, h3⟩ := h.keep hb0
 obtain ⟨A, c, rfl, hlc, hm, hA⟩ := h1
 obtain ⟨A2, c2, rfl, _, hm2, _⟩ := h2
 obtain ⟨A3, c3, rfl, _, hm3, _⟩ := h3
 unfold maxLen at hm hm2 hm3
 have p00 : ∀ W, Since w0 W → W.cell? ⟨w.heap.size, 0, none⟩ = some (.slice A n.ends.length c) := have_cell (by rw [hw0]; simp)
 have p01 : ∀ W, Since w0 W → W.cell? ⟨w.heap.size, 1, none⟩ = some (.slice A2 n.ids.length c2) := have_cell (by rw [hw0]; simp)
 have p02 : ∀ W, Since w0 W → W.cell? ⟨w.heap.size, 2, none⟩ = some (.slice A3 n.inputs.length c3) := have_cell (by rw [hw0]; simp)
 have Hb0 := Lib.hid hb0
 have Hw0 := Lib.hid hw0
 have HA := Lib.hid hA
 clear hA h
 clear hb0 hw0
 obtain ⟨wa, hwa⟩ : ∃ wa, wa = w0.alloc (.cells #[.slice none 0 0, .slice none 0 0, .slice none 0 0] 27) := ⟨_, rfl⟩
 have hsa : Since w0 wa := by rw [hwa]; exact since_alloc _ (since_refl _)
 have h01 : w0.heap.size = w.heap.size + 1 := by rw [Hw0.out]; simp
 have Hza : Hid (wa.heap.size = w.heap.size + 1 + 1) := by show _ = _; rw [hwa, ← h01]; simp
 have HRb : Hid (∀ X, Since wa X → BoxN X (w.heap.size + 1) (.slice none 0 0) (.slice none 0 0) (.slice none 0 0)) := fun X hX => by
  refine BoxN.since (W := wa) ?_ hX
  rw [hwa, ← h01]
  show (w0.heap.push _)[w0.heap.size]? = _
  rw [Array.getElem?_push_size]
 have q00 := lift_cell p00 hsa
 have q01 := lift_cell p01 hsa
 have q02 := lift_cell p02 hsa
 have Hwa := Lib.hid hwa
 have Hsa := Lib.hid hsa
 have Hb1 : Hid (Below w.heap.size w wa) := Below.trans Hb0.out (hsa.below.mono Hb0.out.size)
 clear hwa hsa h01 p00 p01 p02
 go_enter Tryz.func155, Tryz.ntmps155
 go_upto_region 1 with (fail)
 rw [← Hw0.out, ← Hwa.out]
 have hs : Since wa wa := since_refl _
 go_wp2_with fail
 refine (neOwn_gen _ _ _ n wa (H.out.keep Hsa.out.below) HNs.out.ends HNs.out.row HNs.out.sz).mono ?_
 rintro e w1 ⟨we, wi, wn, S, rfl, ho, hb1⟩
 obtain ⟨A1, c1, rfl, -, -, -⟩ := id ho.read.1
 obtain ⟨AI, cI, rfl, -, -, -⟩ := id ho.read.2.1
 obtain ⟨AN, cN, rfl, -, -, -⟩ := id ho.read.2.2
 obtain ⟨g, rfl, -⟩ := ho.head (by omega)
 obtain ⟨base, hbase⟩ : ∃ base, base = wa.heap.size := ⟨_, rfl⟩
 rw [← hbase] at ho
 have hs1 : Since wa w1 := hs.trans hb1
 obtain ⟨w2, hw2⟩ : ∃ z, z = w1.alloc (.cells #[.slice (some ⟨g, 0, none⟩) n.ends.length c1, .slice AI n.ids.length cI, .slice AN n.inputs.length cN] 27) := ⟨_, rfl⟩
 obtain ⟨bo, hbo⟩ : ∃ z, z = w1.heap.size := ⟨_, rfl⟩
 have h12 : Since w1 w2 := by rw [hw2]; exact since_alloc _ (since_refl _)
 have hB2 : Box3 w2 bo (.slice (some ⟨g, 0, none⟩) n.ends.length c1) (.slice AI n.ids.length cI) (.slice AN n.inputs.length cN) := by rw [hw2, hbo]; exact Box3.new _ _ _ _ _
 have hN2 : bo ∉ S := fun hj => by have := (ho.range _ hj).2; omega
 have Hbase := Lib.hid hbase
 have Hw2 := Lib.hid hw2
 have Hbo := Lib.hid hbo
 have HO2 := Lib.hid (ho.keep h12.below)
 have HB2' := Lib.hid hB2
 have HN2 := Lib.hid hN2
 have Hs2 := Lib.hid (hs1.after h12)
 have Hbb : Hid (base ≤ bo ∧ bo < w2.heap.size) := ⟨by rw [hbase, hbo]; exact hs1.below.size, by rw [hw2, hbo]; simp⟩
 have hxv := rowN_get hv
 obtain ⟨xv, hxe⟩ : ∃ x, x = rowN n v := ⟨_, rfl⟩
 rw [← hxe] at hxv
 have Hxe := Lib.hid hxe
 have HX2 := Lib.hid hxv
 have Hxl : Hid (xv.length ≤ 1000) := HNs.out.row _ _ hxv
 clear hbase hw2 hbo ho hB2 hN2 hs1 h12 hb1 hs hxe hxv q00 q01 q02

 have hxu := rowN_get hu0
 obtain ⟨xu, hxe⟩ : ∃ x, x = rowN n u := ⟨_, rfl⟩
 rw [← hxe] at hxu
 have Hxu := Lib.hid hxe
 have HXu := Lib.hid hxu
 have Hxlu : Hid (xu.length ≤ 1000) := HNs.out.row _ _ hxu
 have hl1 := Hxl.out
 have hl2 := Hxlu.out
 have HL2 : Hid (xv.length + 1 ≤ 1000000) := by show _ ≤ _; omega
 have HBs2 : Hid (base ≤ w2.heap.size) := by show _ ≤ _; have := Hbb.out; omega
 have m1 : IntKind.i64.wrap ((xu.length : Int) + 1) = (xu.length : Int) + 1 := wr64 _ (by omega) (by omega)
 clear hl1 hl2 hxe hxu
 obtain ⟨uv, Tv, hcv, -, hRv, -, -, -⟩ := HO2.out.rowCell HX2.out
 obtain ⟨Av, cv, rfl, -, -, -⟩ := id hRv.read
 obtain ⟨uu, Tu, hcu, -, hRu, -, -, -⟩ := HO2.out.rowCell HXu.out
 obtain ⟨Au, cu, rfl, -, -, -⟩ := id hRu.read
 have hbx := HB2'.out.cells.1
 clear hRv hRu
 by_cases hvu : v = u
 ·subst hvu
  obtain rfl : xv = xu := by rw [Hxu.out, Hxe.out]
  go_upto_region 2 with (fail)
  rw [← Hw2.out, ← Hbo.out]
  have htt : ((v : Int) = (v : Int)) = True := by simp
  go_upto_region 6 with (fail)
  clear hcv hcu hbx htt
  obtain ⟨u2, T2, hu2, hf2, hR2, hTS2, hgT2, hgS2, hgrow2⟩ := HO2.out.growRow HX2.out
  obtain ⟨AU2, cU2, rfl, -, -, -⟩ := id hR2.read
  have HR2 := Lib.hid hR2
  have Hgrow2 := Lib.hid hgrow2
  have hgb2 : g ≠ bo := fun h => HN2.out (h ▸ hgS2)
  have Hgb2 := Lib.hid hgb2
  have HgT2 := Lib.hid hgT2
  have HgS2 := Lib.hid hgS2
  have HTS2 := Lib.hid hTS2
  have Hu2 := Lib.hid hu2
  have Hf2 := Lib.hid hf2
  have HbT2 : Hid (bo ∉ T2) := fun h => HN2.out (hTS2 _ h)
  have HB2 := Lib.hid (Box3.cells HB2'.out)
  clear hgb2 hgT2 hgS2 hTS2 hu2 hf2 hR2 hgrow2
  refine wp_region_chainS (fun W => W.cell? ⟨bo, 0, none⟩ = some (.slice (some ⟨g, 0, none⟩) n.ends.length c1) ∧ W.cell? ⟨g, v, none⟩ = some (.slice AU2 xv.length cU2)) 13 [false, false, false, false, false, false, false, false, false, false, false, true, true] (by kernel_rfl) (by kernel_rfl) (show (World.drew w2).cell? ⟨bo, 0, none⟩ = some (.slice (some ⟨g, 0, none⟩) n.ends.length c1) ∧ (World.drew w2).cell? ⟨g, v, none⟩ = some (.slice AU2 xv.length cU2) from ⟨HB2.out.1, Hu2.out⟩) ?_
  simp only [selF, selT, List.take_succ_cons, List.take_zero, List.drop_succ_cons, List.drop_zero]
  refine pflowS_val (v := ?_) rfl ?_ ?_; rotate_left; (intro W hW; (obtain ⟨k0, k1⟩ := hW); go_simp; with_reducible rfl)
  simp only [zA]
  refine pflowS_val (v := ?_) rfl ?_ ?_; rotate_left; (intro W hW; (obtain ⟨k0, k1⟩ := hW); go_simp; with_reducible rfl)
  simp only [zA]
  refine pflowS_val (v := ?_) rfl ?_ ?_; rotate_left; (intro W hW; (obtain ⟨k0, k1⟩ := hW); go_simp; with_reducible rfl)
  simp only [zA]
  refine pflowS_val (v := ?_) rfl ?_ ?_; rotate_left; (intro W hW; (obtain ⟨k0, k1⟩ := hW); go_simp; with_reducible rfl)
  simp only [zA]
  refine pflowS_val (v := ?_) rfl ?_ ?_; rotate_left; (intro W hW; (obtain ⟨k0, k1⟩ := hW); go_simp; with_reducible rfl)
  simp only [zA]
  refine pflowS_val (v := ?_) rfl ?_ ?_; rotate_left; (intro W hW; (obtain ⟨k0, k1⟩ := hW); go_simp; with_reducible rfl)
  simp only [zA]
  refine pflowS_val (v := ?_) rfl ?_ ?_; rotate_left; (intro W hW; (obtain ⟨k0, k1⟩ := hW); go_simp; with_reducible rfl)
  simp only [zA]
  refine pflowS_val (v := ?_) rfl ?_ ?_; rotate_left; (intro W hW; (obtain ⟨k0, k1⟩ := hW); go_simp; with_reducible rfl)
  simp only [zA]
  refine pflowS_val (v := ?_) rfl ?_ ?_; rotate_left; (intro W hW; (obtain ⟨k0, k1⟩ := hW); go_simp; with_reducible rfl)
  simp only [zA]
  refine pflowS_val (v := ?_) rfl ?_ ?_; rotate_left; (intro W hW; (obtain ⟨k0, k1⟩ := hW); go_simp; with_reducible rfl)
  simp only [zA]
  refine pflowS_val (v := ?_) rfl ?_ ?_; rotate_left; (intro W hW; (obtain ⟨k0, k1⟩ := hW); go_simp; with_reducible rfl)
  simp only [zA]
  obtain ⟨W, hWd⟩ : ∃ W, W = World.drew w2 := ⟨_, rfl⟩
  rw [← hWd]
  have hW := (show (World.drew w2).cell? ⟨bo, 0, none⟩ = some (.slice (some ⟨g, 0, none⟩) n.ends.length c1) ∧ (World.drew w2).cell? ⟨g, v, none⟩ = some (.slice AU2 xv.length cU2) from ⟨HB2.out.1, Hu2.out⟩)
  rw [← hWd] at hW
  have HWd := Lib.hid hWd
  clear hWd
  refine tflow_allocS (v := ?_) (ob := ?_) rfl ?_ ?_ ?_; rotate_left 2
  (go_simp; first | with_reducible rfl | (refine ⟨?_, ?_⟩ <;> with_reducible rfl))
  exact ⟨bc (below_alloc _ _) hW.1, bc (below_alloc _ _) hW.2⟩
  intro w8 hw8d hw8s
  replace hW := hw8s
  clear hw8s
  have Hd8 : Hid (w8 = (World.drew w2).alloc (.cells #[.int .i64 (v : Int), .int .i64 ((xv.length : Int) + 1)] 83)) := by show _ = _; rw [hw8d, HWd.out]
  have Hs8 : Hid (Since w2 w8) := by show Since _ _; rw [Hd8.out]; exact since_alloc _ (since_drew (since_refl _))
  have Ho8 : Hid (OwnE w8 base (.slice AU2 xv.length cU2) xv T2) := lawE.keep HR2.out Hs8.out.below
  have Hc8 : Hid (w8.cell? ⟨w2.heap.size, 0, none⟩ = some (.int .i64 (v : Int)) ∧ w8.cell? ⟨w2.heap.size, 1, none⟩ = some (.int .i64 ((xv.length : Int) + 1))) := by show _ ∧ _; rw [Hd8.out]; exact cell_two (World.drew w2) _ _ _
  rw [show W.heap.size = w2.heap.size from by rw [HWd.out]; rfl]
  clear hw8d HWd
  (try simp only [zA])
  refine tflow_of_wp (fun Q' HQ => ?_)
  (refine app_endH (base := base) (v := .slice AU2 xv.length cU2) (xs := xv) rfl _ _ rfl rfl Ho8.out w2.heap.size ((v : Int), ((xv.length : Int) + 1)) rfl Hc8.out.1 Hc8.out.2 HL2.out (Nat.le_trans HBs2.out Hs8.out.below.size) ?_); intro g9 cc9 w9 ho9 hg9 hl9; have hon9 := Only.of_grown hg9; have ht9 : (Value.slice AU2 xv.length cU2).ownBlock.toList = T2 := (HR2.out.2).symm; have hn1 : (⟨bo, 0, none⟩ : Addr).block ∉ (Value.slice AU2 xv.length cU2).ownBlock.toList := (by rw [ht9]; exact HbT2.out); have hn2 : (⟨g, v, none⟩ : Addr).block ∉ (Value.slice AU2 xv.length cU2).ownBlock.toList := (by rw [ht9]; exact HgT2.out); have hk1 := hon9.cell hn1 hW.1; have hk2 := hon9.cell hn2 hW.2; have hk3 := hon9.fz hn2 hW.2 (bf Hs8.out.below Hu2.out Hf2.out); refine HQ _ _ ⟨hk1, hk2⟩ ?_; have Hz9 := Lib.hid (add_end Hgrow2.out HR2.out Hs8.out ho9 hg9 hl9 HTS2.out HgS2.out); clear ho9 hg9 hl9 hn1 hn2 hon9 ht9 hW
  (try simp only [zA])
  simp only [TFlow]
  go_upto_region 7 with (fail)
  obtain ⟨Sw5, hz1, hz2, hz3⟩ := Hz9.out
  obtain ⟨w5, hw⟩ : ∃ z, z = w9.setCell ⟨g, v, none⟩ (.slice (some ⟨g9, 0, none⟩) (xv.length + 1) cc9) := ⟨_, rfl⟩
  rw [← hw] at hz1 hz3 ⊢
  have HOw5 := Lib.hid hz1
  have HSw5 := Lib.hid hz2
  have HNw5' := Lib.hid hz3
  clear hw hz1 hz2 hz3 Hz9 hk1 hk2 hk3
  have HB5' : Hid (Box3 w5 bo (.slice (some ⟨g, 0, none⟩) n.ends.length c1) (.slice AI n.ids.length cI) (.slice AN n.inputs.length cN)) := by obtain ⟨r, hr⟩ := HB2'.out; exact ⟨r, (HNw5'.out.block bo Hbb.out.2 HN2.out).trans hr⟩
  have HN5 : Hid (bo ∉ Sw5) := fun hj => by
   have h2 := Hbb.out
   rcases HSw5.out _ hj with h1 | h1
   ·exact HN2.out h1
   ·omega
  obtain ⟨xw, hxw⟩ : ∃ z, z = xv ++ [((v : Int), (xv.length : Int) + 1)] := ⟨_, rfl⟩
  have HX5 : Hid ((n.ends.set v (xv ++ [((v : Int), ((xv.length : Int) + 1))]))[v]? = some xw) := by show _ = _; rw [hxw]; rw [List.getElem?_set_self (by omega)]
  have HL5 : Hid (xw.length + 1 ≤ 1000000) := by show _ ≤ _; have h1 := Hxl.out; have h2 := Hxlu.out; rw [hxw]; simp; omega
  have HBel5 : Hid (Below base w2 w5) := HNw5'.out.below base HBs2.out (fun j hj => (HO2.out.range j hj).1)
  have HBs5 : Hid (base ≤ w5.heap.size) := Nat.le_trans HBs2.out HBel5.out.size
  have Hxw := Lib.hid hxw
  clear hxw
  have HO5 := HOw5
  obtain ⟨u5, T5, hu5, hf5, hR5, hTS5, hgT5, hgS5, hgrow5⟩ := HO5.out.growRow HX5.out
  obtain ⟨AU5, cU5, rfl, -, -, -⟩ := id hR5.read
  have HR5 := Lib.hid hR5
  have Hgrow5 := Lib.hid hgrow5
  have hgb5 : g ≠ bo := fun h => HN5.out (h ▸ hgS5)
  have Hgb5 := Lib.hid hgb5
  have HgT5 := Lib.hid hgT5
  have HgS5 := Lib.hid hgS5
  have HTS5 := Lib.hid hTS5
  have Hu5 := Lib.hid hu5
  have Hf5 := Lib.hid hf5
  have HbT5 : Hid (bo ∉ T5) := fun h => HN5.out (hTS5 _ h)
  have HB5 := Lib.hid (Box3.cells HB5'.out)
  clear hgb5 hgT5 hgS5 hTS5 hu5 hf5 hR5 hgrow5
  refine wp_region_chainS (fun W => W.cell? ⟨bo, 0, none⟩ = some (.slice (some ⟨g, 0, none⟩) n.ends.length c1) ∧ W.cell? ⟨g, v, none⟩ = some (.slice AU5 xw.length cU5)) 13 [false, false, false, false, false, false, false, false, false, false, false, true, true] (by kernel_rfl) (by kernel_rfl) (show (World.drew w5).cell? ⟨bo, 0, none⟩ = some (.slice (some ⟨g, 0, none⟩) n.ends.length c1) ∧ (World.drew w5).cell? ⟨g, v, none⟩ = some (.slice AU5 xw.length cU5) from ⟨HB5.out.1, Hu5.out⟩) ?_
  simp only [selF, selT, List.take_succ_cons, List.take_zero, List.drop_succ_cons, List.drop_zero]
  refine pflowS_val (v := ?_) rfl ?_ ?_; rotate_left; (intro W hW; (obtain ⟨k0, k1⟩ := hW); go_simp; with_reducible rfl)
  simp only [zA]
  refine pflowS_val (v := ?_) rfl ?_ ?_; rotate_left; (intro W hW; (obtain ⟨k0, k1⟩ := hW); go_simp; with_reducible rfl)
  simp only [zA]
  refine pflowS_val (v := ?_) rfl ?_ ?_; rotate_left; (intro W hW; (obtain ⟨k0, k1⟩ := hW); go_simp; with_reducible rfl)
  simp only [zA]
  refine pflowS_val (v := ?_) rfl ?_ ?_; rotate_left; (intro W hW; (obtain ⟨k0, k1⟩ := hW); go_simp; with_reducible rfl)
  simp only [zA]
  refine pflowS_val (v := ?_) rfl ?_ ?_; rotate_left; (intro W hW; (obtain ⟨k0, k1⟩ := hW); go_simp; with_reducible rfl)
  simp only [zA]
  refine pflowS_val (v := ?_) rfl ?_ ?_; rotate_left; (intro W hW; (obtain ⟨k0, k1⟩ := hW); go_simp; with_reducible rfl)
  simp only [zA]
  refine pflowS_val (v := ?_) rfl ?_ ?_; rotate_left; (intro W hW; (obtain ⟨k0, k1⟩ := hW); go_simp; with_reducible rfl)
  simp only [zA]
  refine pflowS_val (v := ?_) rfl ?_ ?_; rotate_left; (intro W hW; (obtain ⟨k0, k1⟩ := hW); go_simp; with_reducible rfl)
  simp only [zA]
  refine pflowS_val (v := ?_) rfl ?_ ?_; rotate_left; (intro W hW; (obtain ⟨k0, k1⟩ := hW); go_simp; with_reducible rfl)
  simp only [zA]
  refine pflowS_val (v := ?_) rfl ?_ ?_; rotate_left; (intro W hW; (obtain ⟨k0, k1⟩ := hW); go_simp; with_reducible rfl)
  simp only [zA]
  refine pflowS_val (v := ?_) rfl ?_ ?_; rotate_left; (intro W hW; (obtain ⟨k0, k1⟩ := hW); go_simp; with_reducible rfl)
  simp only [zA]
  obtain ⟨W, hWd⟩ : ∃ W, W = World.drew w5 := ⟨_, rfl⟩
  rw [← hWd]
  have hW := (show (World.drew w5).cell? ⟨bo, 0, none⟩ = some (.slice (some ⟨g, 0, none⟩) n.ends.length c1) ∧ (World.drew w5).cell? ⟨g, v, none⟩ = some (.slice AU5 xw.length cU5) from ⟨HB5.out.1, Hu5.out⟩)
  rw [← hWd] at hW
  have HWd := Lib.hid hWd
  clear hWd
  refine tflow_allocS (v := ?_) (ob := ?_) rfl ?_ ?_ ?_; rotate_left 2
  (go_simp; first | with_reducible rfl | (refine ⟨?_, ?_⟩ <;> with_reducible rfl))
  exact ⟨bc (below_alloc _ _) hW.1, bc (below_alloc _ _) hW.2⟩
  intro w8 hw8d hw8s
  replace hW := hw8s
  clear hw8s
  have Hd8 : Hid (w8 = (World.drew w5).alloc (.cells #[.int .i64 (v : Int), .int .i64 (xv.length : Int)] 83)) := by show _ = _; rw [hw8d, HWd.out]
  have Hs8 : Hid (Since w5 w8) := by show Since _ _; rw [Hd8.out]; exact since_alloc _ (since_drew (since_refl _))
  have Ho8 : Hid (OwnE w8 base (.slice AU5 xw.length cU5) xw T5) := lawE.keep HR5.out Hs8.out.below
  have Hc8 : Hid (w8.cell? ⟨w5.heap.size, 0, none⟩ = some (.int .i64 (v : Int)) ∧ w8.cell? ⟨w5.heap.size, 1, none⟩ = some (.int .i64 (xv.length : Int))) := by show _ ∧ _; rw [Hd8.out]; exact cell_two (World.drew w5) _ _ _
  rw [show W.heap.size = w5.heap.size from by rw [HWd.out]; rfl]
  clear hw8d HWd
  (try simp only [zA])
  refine tflow_of_wp (fun Q' HQ => ?_)
  (refine app_endH (base := base) (v := .slice AU5 xw.length cU5) (xs := xw) rfl _ _ rfl rfl Ho8.out w5.heap.size ((v : Int), (xv.length : Int)) rfl Hc8.out.1 Hc8.out.2 HL5.out (Nat.le_trans HBs5.out Hs8.out.below.size) ?_); intro g9 cc9 w9 ho9 hg9 hl9; have hon9 := Only.of_grown hg9; have ht9 : (Value.slice AU5 xw.length cU5).ownBlock.toList = T5 := (HR5.out.2).symm; have hn1 : (⟨bo, 0, none⟩ : Addr).block ∉ (Value.slice AU5 xw.length cU5).ownBlock.toList := (by rw [ht9]; exact HbT5.out); have hn2 : (⟨g, v, none⟩ : Addr).block ∉ (Value.slice AU5 xw.length cU5).ownBlock.toList := (by rw [ht9]; exact HgT5.out); have hk1 := hon9.cell hn1 hW.1; have hk2 := hon9.cell hn2 hW.2; have hk3 := hon9.fz hn2 hW.2 (bf Hs8.out.below Hu5.out Hf5.out); refine HQ _ _ ⟨hk1, hk2⟩ ?_; have Hz9 := Lib.hid (add_end Hgrow5.out HR5.out Hs8.out ho9 hg9 hl9 HTS5.out HgS5.out); clear ho9 hg9 hl9 hn1 hn2 hon9 ht9 hW
  (try simp only [zA])
  simp only [TFlow]
  go_upto_region 8 with (fail)
  obtain ⟨Sw7, hz1, hz2, hz3⟩ := Hz9.out
  obtain ⟨w7, hw⟩ : ∃ z, z = w9.setCell ⟨g, v, none⟩ (.slice (some ⟨g9, 0, none⟩) (xw.length + 1) cc9) := ⟨_, rfl⟩
  rw [← hw] at hz1 hz3 ⊢
  have HOw7 := Lib.hid hz1
  have HSw7 := Lib.hid hz2
  have HNw7' := Lib.hid hz3
  clear hw hz1 hz2 hz3 Hz9 hk1 hk2 hk3
  have HOf : Hid (OwnNet w7 base (.slice (some ⟨g, 0, none⟩) n.ends.length c1) (.slice AI n.ids.length cI) (.slice AN n.inputs.length cN) (joinN n v v) Sw7) := by
   have h1 := HOw7.out
   have e : ({ ends := (n.ends.set v (xv ++ [((v : Int), ((xv.length : Int) + 1))])).set v (xw ++ [((v : Int), (xv.length : Int))]), ids := n.ids, inputs := n.inputs } : Net) = joinN n v v := by
    have h2 := HX5.out
    have h3 : rowN ({ ends := n.ends.set v (xv ++ [((v : Int), ((xv.length : Int) + 1))]), ids := n.ids, inputs := n.inputs } : Net) v = xw := by unfold rowN; rw [List.getD_eq_getElem?_getD]; show ((n.ends.set v _)[v]?).getD [] = xw; rw [h2]; rfl
    unfold joinN
    rw [if_pos rfl, ← Hxe.out]
    unfold addE
    rw [← Hxe.out, h3]
   rw [← e]
   exact h1
  have HBf : Hid (Box3 w7 bo (.slice (some ⟨g, 0, none⟩) n.ends.length c1) (.slice AI n.ids.length cI) (.slice AN n.inputs.length cN)) := by obtain ⟨r, hr⟩ := HB5'.out; exact ⟨r, (HNw7'.out.block bo (by have := Hbb.out; have := HBel5.out.size; omega) HN5.out).trans hr⟩
  have HBel : Hid (Below base w2 w7) := HBel5.out.trans (HNw7'.out.below base HBs5.out (fun j hj => (HO5.out.range j hj).1))
  have hrw : BoxN w7 (w.heap.size + 1) (.slice none 0 0) (.slice none 0 0) (.slice none 0 0) := (HBel.out.block _ (by have h2 := Hbase.out; have h3 := Hza.out; omega)).trans (HRb.out w2 Hs2.out)
  obtain ⟨d0, d1, d2, -, -, -⟩ := HBf.out.cells
  obtain ⟨e0, e1, e2, f0, f1, f2⟩ := hrw.box.cells
  clear hrw
  go_wp2
  refine bodyPost_ret (v := .agg #[.slice (some ⟨g, 0, none⟩) n.ends.length c1, .slice AI n.ids.length cI, .slice AN n.inputs.length cN]) (by simp [results, Tryz.results155, go_sem, *]) rfl ?_
  have hbz := Hbase.out
  have hza := Hza.out
  refine ⟨_, _, _, _, rfl, (HOf.out.stable (fun j hj => ?_)).mono (show w.heap.size ≤ base by omega), ?_⟩
  ·have hj1 := (HOf.out.range j hj).1
   rw [Below.heap_setCell _ _ _ j (by simp; omega), Below.heap_setCell _ _ _ j (by simp; omega), Below.heap_setCell _ _ _ j (by simp; omega)]
  ·have hk : Below w.heap.size w w7 := (Below.trans Hb1.out (Hs2.out.below.mono (by omega))).trans (HBel.out.mono (by omega))
   exact ((hk.setCell (by simp) _).setCell (by simp) _).setCell (by simp) _

 ·have hne : ((v : Int) = (u : Int)) = False := by simp; omega
  go_upto_region 2 with (fail)
  rw [← Hw2.out, ← Hbo.out]
  go_upto_region 6 with (fail)
  clear hcv hcu hbx hne
  obtain ⟨u2, T2, hu2, hf2, hR2, hTS2, hgT2, hgS2, hgrow2⟩ := HO2.out.growRow HX2.out
  obtain ⟨AU2, cU2, rfl, -, -, -⟩ := id hR2.read
  have HR2 := Lib.hid hR2
  have Hgrow2 := Lib.hid hgrow2
  have hgb2 : g ≠ bo := fun h => HN2.out (h ▸ hgS2)
  have Hgb2 := Lib.hid hgb2
  have HgT2 := Lib.hid hgT2
  have HgS2 := Lib.hid hgS2
  have HTS2 := Lib.hid hTS2
  have Hu2 := Lib.hid hu2
  have Hf2 := Lib.hid hf2
  have HbT2 : Hid (bo ∉ T2) := fun h => HN2.out (hTS2 _ h)
  have HB2 := Lib.hid (Box3.cells HB2'.out)
  clear hgb2 hgT2 hgS2 hTS2 hu2 hf2 hR2 hgrow2
  refine wp_region_chainS (fun W => W.cell? ⟨bo, 0, none⟩ = some (.slice (some ⟨g, 0, none⟩) n.ends.length c1) ∧ W.cell? ⟨g, v, none⟩ = some (.slice AU2 xv.length cU2)) 13 [false, false, false, false, false, false, false, false, false, false, false, true, true] (by kernel_rfl) (by kernel_rfl) (show (World.drew w2).cell? ⟨bo, 0, none⟩ = some (.slice (some ⟨g, 0, none⟩) n.ends.length c1) ∧ (World.drew w2).cell? ⟨g, v, none⟩ = some (.slice AU2 xv.length cU2) from ⟨HB2.out.1, Hu2.out⟩) ?_
  simp only [selF, selT, List.take_succ_cons, List.take_zero, List.drop_succ_cons, List.drop_zero]
  refine pflowS_val (v := ?_) rfl ?_ ?_; rotate_left; (intro W hW; (obtain ⟨k0, k1⟩ := hW); go_simp; with_reducible rfl)
  simp only [zA]
  refine pflowS_val (v := ?_) rfl ?_ ?_; rotate_left; (intro W hW; (obtain ⟨k0, k1⟩ := hW); go_simp; with_reducible rfl)
  simp only [zA]
  refine pflowS_val (v := ?_) rfl ?_ ?_; rotate_left; (intro W hW; (obtain ⟨k0, k1⟩ := hW); go_simp; with_reducible rfl)
  simp only [zA]
  refine pflowS_val (v := ?_) rfl ?_ ?_; rotate_left; (intro W hW; (obtain ⟨k0, k1⟩ := hW); go_simp; with_reducible rfl)
  simp only [zA]
  refine pflowS_val (v := ?_) rfl ?_ ?_; rotate_left; (intro W hW; (obtain ⟨k0, k1⟩ := hW); go_simp; with_reducible rfl)
  simp only [zA]
  refine pflowS_val (v := ?_) rfl ?_ ?_; rotate_left; (intro W hW; (obtain ⟨k0, k1⟩ := hW); go_simp; with_reducible rfl)
  simp only [zA]
  refine pflowS_val (v := ?_) rfl ?_ ?_; rotate_left; (intro W hW; (obtain ⟨k0, k1⟩ := hW); go_simp; with_reducible rfl)
  simp only [zA]
  refine pflowS_val (v := ?_) rfl ?_ ?_; rotate_left; (intro W hW; (obtain ⟨k0, k1⟩ := hW); go_simp; with_reducible rfl)
  simp only [zA]
  refine pflowS_val (v := ?_) rfl ?_ ?_; rotate_left; (intro W hW; (obtain ⟨k0, k1⟩ := hW); go_simp; with_reducible rfl)
  simp only [zA]
  refine pflowS_val (v := ?_) rfl ?_ ?_; rotate_left; (intro W hW; (obtain ⟨k0, k1⟩ := hW); go_simp; with_reducible rfl)
  simp only [zA]
  refine pflowS_val (v := ?_) rfl ?_ ?_; rotate_left; (intro W hW; (obtain ⟨k0, k1⟩ := hW); go_simp; with_reducible rfl)
  simp only [zA]
  obtain ⟨W, hWd⟩ : ∃ W, W = World.drew w2 := ⟨_, rfl⟩
  rw [← hWd]
  have hW := (show (World.drew w2).cell? ⟨bo, 0, none⟩ = some (.slice (some ⟨g, 0, none⟩) n.ends.length c1) ∧ (World.drew w2).cell? ⟨g, v, none⟩ = some (.slice AU2 xv.length cU2) from ⟨HB2.out.1, Hu2.out⟩)
  rw [← hWd] at hW
  have HWd := Lib.hid hWd
  clear hWd
  refine tflow_allocS (v := ?_) (ob := ?_) rfl ?_ ?_ ?_; rotate_left 2
  (go_simp; first | with_reducible rfl | (refine ⟨?_, ?_⟩ <;> with_reducible rfl))
  exact ⟨bc (below_alloc _ _) hW.1, bc (below_alloc _ _) hW.2⟩
  intro w8 hw8d hw8s
  replace hW := hw8s
  clear hw8s
  have Hd8 : Hid (w8 = (World.drew w2).alloc (.cells #[.int .i64 (u : Int), .int .i64 (xu.length : Int)] 83)) := by show _ = _; rw [hw8d, HWd.out]
  have Hs8 : Hid (Since w2 w8) := by show Since _ _; rw [Hd8.out]; exact since_alloc _ (since_drew (since_refl _))
  have Ho8 : Hid (OwnE w8 base (.slice AU2 xv.length cU2) xv T2) := lawE.keep HR2.out Hs8.out.below
  have Hc8 : Hid (w8.cell? ⟨w2.heap.size, 0, none⟩ = some (.int .i64 (u : Int)) ∧ w8.cell? ⟨w2.heap.size, 1, none⟩ = some (.int .i64 (xu.length : Int))) := by show _ ∧ _; rw [Hd8.out]; exact cell_two (World.drew w2) _ _ _
  rw [show W.heap.size = w2.heap.size from by rw [HWd.out]; rfl]
  clear hw8d HWd
  (try simp only [zA])
  refine tflow_of_wp (fun Q' HQ => ?_)
  (refine app_endH (base := base) (v := .slice AU2 xv.length cU2) (xs := xv) rfl _ _ rfl rfl Ho8.out w2.heap.size ((u : Int), (xu.length : Int)) rfl Hc8.out.1 Hc8.out.2 HL2.out (Nat.le_trans HBs2.out Hs8.out.below.size) ?_); intro g9 cc9 w9 ho9 hg9 hl9; have hon9 := Only.of_grown hg9; have ht9 : (Value.slice AU2 xv.length cU2).ownBlock.toList = T2 := (HR2.out.2).symm; have hn1 : (⟨bo, 0, none⟩ : Addr).block ∉ (Value.slice AU2 xv.length cU2).ownBlock.toList := (by rw [ht9]; exact HbT2.out); have hn2 : (⟨g, v, none⟩ : Addr).block ∉ (Value.slice AU2 xv.length cU2).ownBlock.toList := (by rw [ht9]; exact HgT2.out); have hk1 := hon9.cell hn1 hW.1; have hk2 := hon9.cell hn2 hW.2; have hk3 := hon9.fz hn2 hW.2 (bf Hs8.out.below Hu2.out Hf2.out); refine HQ _ _ ⟨hk1, hk2⟩ ?_; have Hz9 := Lib.hid (add_end Hgrow2.out HR2.out Hs8.out ho9 hg9 hl9 HTS2.out HgS2.out); clear ho9 hg9 hl9 hn1 hn2 hon9 ht9 hW
  (try simp only [zA])
  simp only [TFlow]
  go_upto_region 7 with (fail)
  obtain ⟨Sw5, hz1, hz2, hz3⟩ := Hz9.out
  obtain ⟨w5, hw⟩ : ∃ z, z = w9.setCell ⟨g, v, none⟩ (.slice (some ⟨g9, 0, none⟩) (xv.length + 1) cc9) := ⟨_, rfl⟩
  rw [← hw] at hz1 hz3 ⊢
  have HOw5 := Lib.hid hz1
  have HSw5 := Lib.hid hz2
  have HNw5' := Lib.hid hz3
  clear hw hz1 hz2 hz3 Hz9 hk1 hk2 hk3
  have HB5' : Hid (Box3 w5 bo (.slice (some ⟨g, 0, none⟩) n.ends.length c1) (.slice AI n.ids.length cI) (.slice AN n.inputs.length cN)) := by obtain ⟨r, hr⟩ := HB2'.out; exact ⟨r, (HNw5'.out.block bo Hbb.out.2 HN2.out).trans hr⟩
  have HN5 : Hid (bo ∉ Sw5) := fun hj => by
   have h2 := Hbb.out
   rcases HSw5.out _ hj with h1 | h1
   ·exact HN2.out h1
   ·omega
  obtain ⟨xw, hxw⟩ : ∃ z, z = xu := ⟨_, rfl⟩
  have HX5 : Hid ((n.ends.set v (xv ++ [((u : Int), (xu.length : Int))]))[u]? = some xw) := by show _ = _; rw [hxw]; rw [List.getElem?_set_ne hvu]; exact HXu.out
  have HL5 : Hid (xw.length + 1 ≤ 1000000) := by show _ ≤ _; have h1 := Hxl.out; have h2 := Hxlu.out; rw [hxw]; omega
  have HBel5 : Hid (Below base w2 w5) := HNw5'.out.below base HBs2.out (fun j hj => (HO2.out.range j hj).1)
  have HBs5 : Hid (base ≤ w5.heap.size) := Nat.le_trans HBs2.out HBel5.out.size
  have Hxw := Lib.hid hxw
  clear hxw
  have HO5 := HOw5
  obtain ⟨u5, T5, hu5, hf5, hR5, hTS5, hgT5, hgS5, hgrow5⟩ := HO5.out.growRow HX5.out
  obtain ⟨AU5, cU5, rfl, -, -, -⟩ := id hR5.read
  have HR5 := Lib.hid hR5
  have Hgrow5 := Lib.hid hgrow5
  have hgb5 : g ≠ bo := fun h => HN5.out (h ▸ hgS5)
  have Hgb5 := Lib.hid hgb5
  have HgT5 := Lib.hid hgT5
  have HgS5 := Lib.hid hgS5
  have HTS5 := Lib.hid hTS5
  have Hu5 := Lib.hid hu5
  have Hf5 := Lib.hid hf5
  have HbT5 : Hid (bo ∉ T5) := fun h => HN5.out (hTS5 _ h)
  have HB5 := Lib.hid (Box3.cells HB5'.out)
  clear hgb5 hgT5 hgS5 hTS5 hu5 hf5 hR5 hgrow5
  refine wp_region_chainS (fun W => W.cell? ⟨bo, 0, none⟩ = some (.slice (some ⟨g, 0, none⟩) n.ends.length c1) ∧ W.cell? ⟨g, u, none⟩ = some (.slice AU5 xw.length cU5)) 13 [false, false, false, false, false, false, false, false, false, false, false, true, true] (by kernel_rfl) (by kernel_rfl) (show (World.drew w5).cell? ⟨bo, 0, none⟩ = some (.slice (some ⟨g, 0, none⟩) n.ends.length c1) ∧ (World.drew w5).cell? ⟨g, u, none⟩ = some (.slice AU5 xw.length cU5) from ⟨HB5.out.1, Hu5.out⟩) ?_
  simp only [selF, selT, List.take_succ_cons, List.take_zero, List.drop_succ_cons, List.drop_zero]
  refine pflowS_val (v := ?_) rfl ?_ ?_; rotate_left; (intro W hW; (obtain ⟨k0, k1⟩ := hW); go_simp; with_reducible rfl)
  simp only [zA]
  refine pflowS_val (v := ?_) rfl ?_ ?_; rotate_left; (intro W hW; (obtain ⟨k0, k1⟩ := hW); go_simp; with_reducible rfl)
  simp only [zA]
  refine pflowS_val (v := ?_) rfl ?_ ?_; rotate_left; (intro W hW; (obtain ⟨k0, k1⟩ := hW); go_simp; with_reducible rfl)
  simp only [zA]
  refine pflowS_val (v := ?_) rfl ?_ ?_; rotate_left; (intro W hW; (obtain ⟨k0, k1⟩ := hW); go_simp; with_reducible rfl)
  simp only [zA]
  refine pflowS_val (v := ?_) rfl ?_ ?_; rotate_left; (intro W hW; (obtain ⟨k0, k1⟩ := hW); go_simp; with_reducible rfl)
  simp only [zA]
  refine pflowS_val (v := ?_) rfl ?_ ?_; rotate_left; (intro W hW; (obtain ⟨k0, k1⟩ := hW); go_simp; with_reducible rfl)
  simp only [zA]
  refine pflowS_val (v := ?_) rfl ?_ ?_; rotate_left; (intro W hW; (obtain ⟨k0, k1⟩ := hW); go_simp; with_reducible rfl)
  simp only [zA]
  refine pflowS_val (v := ?_) rfl ?_ ?_; rotate_left; (intro W hW; (obtain ⟨k0, k1⟩ := hW); go_simp; with_reducible rfl)
  simp only [zA]
  refine pflowS_val (v := ?_) rfl ?_ ?_; rotate_left; (intro W hW; (obtain ⟨k0, k1⟩ := hW); go_simp; with_reducible rfl)
  simp only [zA]
  refine pflowS_val (v := ?_) rfl ?_ ?_; rotate_left; (intro W hW; (obtain ⟨k0, k1⟩ := hW); go_simp; with_reducible rfl)
  simp only [zA]
  refine pflowS_val (v := ?_) rfl ?_ ?_; rotate_left; (intro W hW; (obtain ⟨k0, k1⟩ := hW); go_simp; with_reducible rfl)
  simp only [zA]
  obtain ⟨W, hWd⟩ : ∃ W, W = World.drew w5 := ⟨_, rfl⟩
  rw [← hWd]
  have hW := (show (World.drew w5).cell? ⟨bo, 0, none⟩ = some (.slice (some ⟨g, 0, none⟩) n.ends.length c1) ∧ (World.drew w5).cell? ⟨g, u, none⟩ = some (.slice AU5 xw.length cU5) from ⟨HB5.out.1, Hu5.out⟩)
  rw [← hWd] at hW
  have HWd := Lib.hid hWd
  clear hWd
  refine tflow_allocS (v := ?_) (ob := ?_) rfl ?_ ?_ ?_; rotate_left 2
  (go_simp; first | with_reducible rfl | (refine ⟨?_, ?_⟩ <;> with_reducible rfl))
  exact ⟨bc (below_alloc _ _) hW.1, bc (below_alloc _ _) hW.2⟩
  intro w8 hw8d hw8s
  replace hW := hw8s
  clear hw8s
  have Hd8 : Hid (w8 = (World.drew w5).alloc (.cells #[.int .i64 (v : Int), .int .i64 (xv.length : Int)] 83)) := by show _ = _; rw [hw8d, HWd.out]
  have Hs8 : Hid (Since w5 w8) := by show Since _ _; rw [Hd8.out]; exact since_alloc _ (since_drew (since_refl _))
  have Ho8 : Hid (OwnE w8 base (.slice AU5 xw.length cU5) xw T5) := lawE.keep HR5.out Hs8.out.below
  have Hc8 : Hid (w8.cell? ⟨w5.heap.size, 0, none⟩ = some (.int .i64 (v : Int)) ∧ w8.cell? ⟨w5.heap.size, 1, none⟩ = some (.int .i64 (xv.length : Int))) := by show _ ∧ _; rw [Hd8.out]; exact cell_two (World.drew w5) _ _ _
  rw [show W.heap.size = w5.heap.size from by rw [HWd.out]; rfl]
  clear hw8d HWd
  (try simp only [zA])
  refine tflow_of_wp (fun Q' HQ => ?_)
  (refine app_endH (base := base) (v := .slice AU5 xw.length cU5) (xs := xw) rfl _ _ rfl rfl Ho8.out w5.heap.size ((v : Int), (xv.length : Int)) rfl Hc8.out.1 Hc8.out.2 HL5.out (Nat.le_trans HBs5.out Hs8.out.below.size) ?_); intro g9 cc9 w9 ho9 hg9 hl9; have hon9 := Only.of_grown hg9; have ht9 : (Value.slice AU5 xw.length cU5).ownBlock.toList = T5 := (HR5.out.2).symm; have hn1 : (⟨bo, 0, none⟩ : Addr).block ∉ (Value.slice AU5 xw.length cU5).ownBlock.toList := (by rw [ht9]; exact HbT5.out); have hn2 : (⟨g, u, none⟩ : Addr).block ∉ (Value.slice AU5 xw.length cU5).ownBlock.toList := (by rw [ht9]; exact HgT5.out); have hk1 := hon9.cell hn1 hW.1; have hk2 := hon9.cell hn2 hW.2; have hk3 := hon9.fz hn2 hW.2 (bf Hs8.out.below Hu5.out Hf5.out); refine HQ _ _ ⟨hk1, hk2⟩ ?_; have Hz9 := Lib.hid (add_end Hgrow5.out HR5.out Hs8.out ho9 hg9 hl9 HTS5.out HgS5.out); clear ho9 hg9 hl9 hn1 hn2 hon9 ht9 hW
  (try simp only [zA])
  simp only [TFlow]
  go_upto_region 8 with (fail)
  obtain ⟨Sw7, hz1, hz2, hz3⟩ := Hz9.out
  obtain ⟨w7, hw⟩ : ∃ z, z = w9.setCell ⟨g, u, none⟩ (.slice (some ⟨g9, 0, none⟩) (xw.length + 1) cc9) := ⟨_, rfl⟩
  rw [← hw] at hz1 hz3 ⊢
  have HOw7 := Lib.hid hz1
  have HSw7 := Lib.hid hz2
  have HNw7' := Lib.hid hz3
  clear hw hz1 hz2 hz3 Hz9 hk1 hk2 hk3
  have HOf : Hid (OwnNet w7 base (.slice (some ⟨g, 0, none⟩) n.ends.length c1) (.slice AI n.ids.length cI) (.slice AN n.inputs.length cN) (joinN n v u) Sw7) := by
   have h1 := HOw7.out
   have e : ({ ends := (n.ends.set v (xv ++ [((u : Int), (xu.length : Int))])).set u (xw ++ [((v : Int), (xv.length : Int))]), ids := n.ids, inputs := n.inputs } : Net) = joinN n v u := by
    have h2 := HX5.out
    have h3 : rowN ({ ends := n.ends.set v (xv ++ [((u : Int), (xu.length : Int))]), ids := n.ids, inputs := n.inputs } : Net) u = xw := by unfold rowN; rw [List.getD_eq_getElem?_getD]; show ((n.ends.set v _)[u]?).getD [] = xw; rw [h2]; rfl
    unfold joinN
    rw [if_neg hvu, ← Hxe.out, ← Hxu.out]
    unfold addE
    rw [← Hxe.out, h3]
   rw [← e]
   exact h1
  have HBf : Hid (Box3 w7 bo (.slice (some ⟨g, 0, none⟩) n.ends.length c1) (.slice AI n.ids.length cI) (.slice AN n.inputs.length cN)) := by obtain ⟨r, hr⟩ := HB5'.out; exact ⟨r, (HNw7'.out.block bo (by have := Hbb.out; have := HBel5.out.size; omega) HN5.out).trans hr⟩
  have HBel : Hid (Below base w2 w7) := HBel5.out.trans (HNw7'.out.below base HBs5.out (fun j hj => (HO5.out.range j hj).1))
  have hrw : BoxN w7 (w.heap.size + 1) (.slice none 0 0) (.slice none 0 0) (.slice none 0 0) := (HBel.out.block _ (by have h2 := Hbase.out; have h3 := Hza.out; omega)).trans (HRb.out w2 Hs2.out)
  obtain ⟨d0, d1, d2, -, -, -⟩ := HBf.out.cells
  obtain ⟨e0, e1, e2, f0, f1, f2⟩ := hrw.box.cells
  clear hrw
  go_wp2
  refine bodyPost_ret (v := .agg #[.slice (some ⟨g, 0, none⟩) n.ends.length c1, .slice AI n.ids.length cI, .slice AN n.inputs.length cN]) (by simp [results, Tryz.results155, go_sem, *]) rfl ?_
  have hbz := Hbase.out
  have hza := Hza.out
  refine ⟨_, _, _, _, rfl, (HOf.out.stable (fun j hj => ?_)).mono (show w.heap.size ≤ base by omega), ?_⟩
  ·have hj1 := (HOf.out.range j hj).1
   rw [Below.heap_setCell _ _ _ j (by simp; omega), Below.heap_setCell _ _ _ j (by simp; omega), Below.heap_setCell _ _ _ j (by simp; omega)]
  ·have hk : Below w.heap.size w w7 := (Below.trans Hb1.out (Hs2.out.below.mono (by omega))).trans (HBel.out.mono (by omega))
   exact ((hk.setCell (by simp) _).setCell (by simp) _).setCell (by simp) _
end Go.Proofs.YtgmdpppljkmabaaGreat
namespace Go.Proofs.YtgmdpppljkmabaaGreat
open Go Go.RowKit
/-! the ports of a node are exchanged in a copy -/
def InN (n : Net) (e : Int × Int) : Prop := ∃ (a b : Nat) (fs : List (Int × Int)), e = ((a : Int), (b : Int)) ∧ n.ends[a]? = some fs ∧ b < fs.length
def WfN (n : Net) : Prop := ∀ (k : Nat) (es : List (Int × Int)), n.ends[k]? = some es → ∀ e ∈ es, InN n e
def AllIn (n N : Net) : Prop := ∀ (k : Nat) (es : List (Int × Int)), N.ends[k]? = some es → ∀ e ∈ es, InN n e
structure SameSh (n N : Net) : Prop where
 ids : N.ids = n.ids
 inputs : N.inputs = n.inputs
 len : N.ends.length = n.ends.length
 row : ∀ (k : Nat) (es : List (Int × Int)), n.ends[k]? = some es → ∃ fs, N.ends[k]? = some fs ∧ fs.length = es.length
theorem SameSh.refl (n : Net) : SameSh n n := ⟨rfl, rfl, rfl, fun _ es h => ⟨es, h, rfl⟩⟩
theorem SameSh.back {n N : Net} (h : SameSh n N) {k : Nat} {fs : List (Int × Int)} (hf : N.ends[k]? = some fs) : ∃ es, n.ends[k]? = some es ∧ fs.length = es.length := by
 obtain ⟨es, he⟩ := getx n.ends k (by have := lt_of_get hf; have := h.len; omega)
 obtain ⟨gs, hg, hl⟩ := h.row k es he
 rw [hf] at hg
 cases hg
 exact ⟨es, he, hl⟩
theorem SameSh.trans {a b c : Net} (h : SameSh a b) (h' : SameSh b c) : SameSh a c := ⟨h'.ids.trans h.ids, h'.inputs.trans h.inputs, h'.len.trans h.len, fun k es he => by
 obtain ⟨fs, h1, h2⟩ := h.row k es he
 obtain ⟨gs, h3, h4⟩ := h'.row k fs h1
 exact ⟨gs, h3, by omega⟩⟩
theorem InN.sh {n N : Net} (h : SameSh n N) {e : Int × Int} (he : InN n e) : InN N e := by
 obtain ⟨a, b, fs, h1, h2, h3⟩ := he
 obtain ⟨gs, h4, h5⟩ := h.row a fs h2
 exact ⟨a, b, gs, h1, h4, by omega⟩
theorem AllIn.wf {n N : Net} (h : SameSh n N) (ha : AllIn n N) : WfN N := fun k es he e hm => (ha k es he e hm).sh h
theorem SameSh.small {n N : Net} (h : SameSh n N) (hs : SmallN n) (hsz : szNet N ≤ 1048576) : SmallN N := ⟨by have := h.len; have := hs.ends; omega, fun k fs hf => by
 obtain ⟨es, h1, h2⟩ := h.back hf
 have := hs.row k es h1
 omega, hsz⟩
theorem SameSh.put {n N : Net} (h : SameSh n N) {k j : Nat} {es : List (Int × Int)} (hx : N.ends[k]? = some es) (y : Int × Int) : SameSh n { N with ends := N.ends.set k (es.set j y) } := ⟨h.ids, h.inputs, by show (N.ends.set k _).length = _; rw [List.length_set]; exact h.len, fun q fs hq => by
 obtain ⟨gs, h1, h2⟩ := h.row q fs hq
 by_cases e : q = k
 ·subst e
  refine ⟨es.set j y, ?_, ?_⟩
  ·show (N.ends.set q _)[q]? = _
   rw [List.getElem?_set_self (lt_of_get hx)]
  ·rw [hx] at h1
   cases h1
   rw [List.length_set]
   exact h2
 ·exact ⟨gs, by show (N.ends.set k _)[q]? = _; rw [List.getElem?_set_ne (Ne.symm e)]; exact h1, h2⟩⟩
theorem AllIn.put {n N : Net} (h : AllIn n N) {k j : Nat} {es : List (Int × Int)} (hx : N.ends[k]? = some es) {y : Int × Int} (hy : InN n y) : AllIn n { N with ends := N.ends.set k (es.set j y) } := fun q fs hq e he => by
 by_cases hqk : q = k
 ·subst hqk
  have hq' : (N.ends.set q (es.set j y))[q]? = some fs := hq
  rw [List.getElem?_set_self (lt_of_get hx)] at hq'
  cases hq'
  rcases List.mem_or_eq_of_mem_set he with h1 | h1
  ·exact h q es hx e h1
  ·rw [h1]; exact hy
 ·have hq' : (N.ends.set k (es.set j y))[q]? = some fs := hq
  rw [List.getElem?_set_ne (Ne.symm hqk)] at hq'
  exact h q fs hq' e he
structure Cp (wa W : World) (ob g c m : Nat) (vi vn : Value) (N : Net) (S : List Nat) : Prop where
 own : OwnNet W wa.heap.size (.slice (some ⟨g, 0, none⟩) m c) vi vn N S
 box : Box3 W ob (.slice (some ⟨g, 0, none⟩) m c) vi vn
 nb : ob ∉ S
 since : Since wa W
theorem Cp.keep {wa W W' : World} {ob g c m : Nat} {vi vn : Value} {N : Net} {S : List Nat} (h : Cp wa W ob g c m vi vn N S) (hs : Since W W') : Cp wa W' ob g c m vi vn N S :=
 ⟨h.own.keep hs.below, h.box.below hs h.box.lt, h.nb, h.since.after hs⟩
theorem Cp.put {wa W : World} {ob g c m : Nat} {vi vn : Value} {N : Net} {S : List Nat} (h : Cp wa W ob g c m vi vn N S) {p : Addr} (hp : wa.heap.size ≤ p.block) (hS : p.block ∉ S) (ho : p.block ≠ ob) (u : Value) : Cp wa (W.setCell p u) ob g c m vi vn N S :=
 ⟨h.own.stable (fun k hk => Below.heap_setCell _ _ _ _ (fun e => hS (e ▸ hk))), h.box.set ho, h.nb, h.since.setCell hp _⟩
theorem Cp.port {wa W : World} {ob g c m : Nat} {vi vn : Value} {N : Net} {S : List Nat} (h : Cp wa W ob g c m vi vn N S) {k j : Nat} {es : List (Int × Int)} (hx : N.ends[k]? = some es) (hj : j < es.length) :
  ∃ gr cr : Nat, W.cell? ⟨g, k, none⟩ = some (.slice (some ⟨gr, 0, none⟩) es.length cr) ∧ es.length ≤ cr ∧ cr ≤ 9223372036854775807 ∧ gr ∈ S ∧ g ≠ gr ∧ gr ≠ ob ∧ W.frozen? ⟨gr, j * 2, none⟩ = false ∧ W.frozen? ⟨gr, j * 2 + 1, none⟩ = false ∧ (∃ z, W.cell? ⟨gr, j * 2, none⟩ = some z) ∧ (∃ z, W.cell? ⟨gr, j * 2 + 1, none⟩ = some z) ∧
   ∀ y : Int × Int, Cp wa ((W.setCell ⟨gr, j * 2, none⟩ (.int .i64 y.1)).setCell ⟨gr, j * 2 + 1, none⟩ (.int .i64 y.2)) ob g c m vi vn { N with ends := N.ends.set k (es.set j y) } S := by
 obtain ⟨gr, cr, c1, c2, c3, c4, c5, c6, ⟨c7, c8⟩, c9, c10, hup⟩ := h.own.setEnd hx hj
 have hgs : wa.heap.size ≤ gr := (h.own.range gr c5).1
 have hn : gr ≠ ob := fun e => h.nb (e ▸ c5)
 unfold maxLen at c3
 exact ⟨gr, cr, c1, c2, by omega, c5, c6, hn, c7, c8, c9, c10, fun y => ⟨hup y, (h.box.set hn).set hn, h.nb, (h.since.setCell hgs _).setCell hgs _⟩⟩
end Go.Proofs.YtgmdpppljkmabaaGreat
