/- Parts of the proof: walks of functions and plain laws. -/
import Derived.Test.YtgmdpppljkmabaaGreatP0
import Derived.Test.YtgmdpppljkmabaaGreatP22
namespace Go.Proofs.YtgmdpppljkmabaaGreat
open Go Go.RowKit
/-! neBend (printed by tools/dr17.py) -/
theorem among_q (cb : Nat) (A : Option Addr) (L c P : Nat) (B g q m : Nat) (xs : List Int) (w : World) (hm : xs.length = m) (h : CurP w cb A L c P) (hP : P ≤ 4611686018427387000) (ho : Own w B (.slice (some ⟨g, 0, none⟩) m q) xs) (hB : cb < B) (hx : 1 ≤ xs.length) (hx2 : xs.length ≤ 1048576) :
  Calls Tryz.prog 68 #[.pointer (some ⟨cb, 0, none⟩), .slice (some ⟨g, 0, none⟩) m q] w fun e w' => ∃ x, e = .returned (.int .i64 x) ∧ x ∈ xs ∧ CurP w' cb A L c (P + 2) ∧ CB cb w.heap.size w w' := by
 subst hm
 exact among_p cb A L c P B g q xs w h hP ho hB hx hx2
section
variable {cb pb : Nat} {A : Option Addr} {L c P : Nat} {w W : World} {ve vi vn : Value} {N : Net} {S : List Nat}
theorem Br.setIn {g m d k : Nat} (h : Br cb pb A L c P w W ve vi (.slice (some ⟨g, 0, none⟩) m d) N S) (x : Int) (hk : k < N.inputs.length) :
  W.frozen? ⟨g, k, none⟩ = false ∧ (∃ z, W.cell? ⟨g, k, none⟩ = some z) ∧ Br cb pb A L c P w (W.setCell ⟨g, k, none⟩ (.int .i64 x)) ve vi (.slice (some ⟨g, 0, none⟩) m d) { N with inputs := N.inputs.set k x } S := by
 obtain ⟨h1, h2, h3⟩ := h.mb.own.setIn x hk
 exact ⟨h2, h.mb.own.inCell hk, h.own h3 (fun j hj => .inl hj) ((Only.refl _ _).setCell (.inl h1) _)⟩
theorem Br.setId {g m d k : Nat} (h : Br cb pb A L c P w W ve (.slice (some ⟨g, 0, none⟩) m d) vn N S) (x : Int) (hk : k < N.ids.length) :
  W.frozen? ⟨g, k, none⟩ = false ∧ (∃ z, W.cell? ⟨g, k, none⟩ = some z) ∧ ∃ S', Br cb pb A L c P w (W.setCell ⟨g, k, none⟩ (.int .i64 x)) ve (.slice (some ⟨g, 0, none⟩) m d) vn { N with ids := N.ids.set k x } S' := by
 obtain ⟨⟨ho, -⟩, hs⟩ := h.mb.ownIds
 obtain ⟨y, hy⟩ := getx N.ids k hk
 have hon : Only (Value.slice (some ⟨g, 0, none⟩) m d).ownBlock.toList W (W.setCell ⟨g, k, none⟩ (.int .i64 x)) := (Only.refl _ _).setCell (.inl (by simp [Value.ownBlock])) _
 obtain ⟨S', h1, h2⟩ := h.mb.own.turnIds (vi' := .slice (some ⟨g, 0, none⟩) m d) ⟨ho.set (k := k) x, rfl⟩ hon (fun j hj => .inl hj)
 exact ⟨ho.free k, ⟨_, ho.cell hy⟩, S', h.own h1 h2 (hon.mono hs)⟩
theorem Br.setEnd {g m d k : Nat} {xs : List (Int × Int)} (h : Br cb pb A L c P w W (.slice (some ⟨g, 0, none⟩) m d) vi vn N S) (hx : N.ends[k]? = some xs) (h0 : 0 < xs.length) :
  ∃ gr cr, W.cell? ⟨g, k, none⟩ = some (.slice (some ⟨gr, 0, none⟩) xs.length cr) ∧ W.frozen? ⟨gr, 0, none⟩ = false ∧ W.frozen? ⟨gr, 1, none⟩ = false ∧ (∃ z, W.cell? ⟨gr, 0, none⟩ = some z) ∧ (∃ z, W.cell? ⟨gr, 1, none⟩ = some z) ∧
   (∀ x : Int, ∃ y, Br cb pb A L c P w (W.setCell ⟨gr, 0, none⟩ (.int .i64 x)) (.slice (some ⟨g, 0, none⟩) m d) vi vn { N with ends := N.ends.set k (xs.set 0 y) } S) ∧
   (∀ x : Int, ∃ y, Br cb pb A L c P w (W.setCell ⟨gr, 1, none⟩ (.int .i64 x)) (.slice (some ⟨g, 0, none⟩) m d) vi vn { N with ends := N.ends.set k (xs.set 0 y) } S) := by
 obtain ⟨gr, cr, h1, h2, f0, f1, c0, c1, a, b⟩ := h.mb.own.setPort hx h0
 refine ⟨gr, cr, h1, f0, f1, c0, c1, fun x => ?_, fun x => ?_⟩
 ·obtain ⟨y, hy⟩ := a x
  exact ⟨y, h.own hy (fun j hj => .inl hj) ((Only.refl _ _).setCell (.inl h2) _)⟩
 ·obtain ⟨y, hy⟩ := b x
  exact ⟨y, h.own hy (fun j hj => .inl hj) ((Only.refl _ _).setCell (.inl h2) _)⟩
end
theorem Bd.more {n : Net} (h : Bd n) (h1 : n.ends.length ≤ 60) (h2 : n.inputs.length ≤ 60) : Bd { n with ends := n.ends ++ [[]], inputs := n.inputs ++ [0] } := by
 refine ⟨by simp; omega, fun k es he => ?_, h.ids, by simp; omega⟩
 have he : (n.ends ++ [[]])[k]? = some es := he
 rw [List.getElem?_append] at he
 split at he
 ·exact h.row k es he
 ·have : es = [] := by
   have h3 := List.mem_of_getElem? he
   simpa using h3
  rw [this]; simp
def cellLen : Option Value → Nat
 | some (.slice _ n _) => n
 | _ => 0
theorem lit_int {w : World} {B : Nat} (xs : List Int) {v : Value} {o : Obj} (ho : o = .cells (xs.map (Value.int .i64)).toArray 3) (hv : v = .slice (some ⟨w.heap.size, 0, none⟩) xs.length xs.length) (hl : xs.length ≤ 1000) (hB : B ≤ w.heap.size) : Own (w.alloc o) B v xs := by
 subst ho hv
 exact (own_lit w xs (by unfold maxLen; omega)).mono hB
set_option maxRecDepth 100000 in
set_option maxHeartbeats 8000000 in
theorem neBend_p (cb : Nat) (A : Option Addr) (L c P R M : Nat) (ve vi vn : Value) (n : Net) (w : World) (hc : CurP w cb A L c P) (hP : P ≤ 4400000000000000000) (h : NetIn w ve vi vn n) (hg : Gd R M n) (hn0 : 0 < n.ends.length) (hR : R ≤ 100) (hM : M ≤ 40) :
  Calls Tryz.prog 129 #[.pointer (some ⟨cb, 0, none⟩), .agg #[ve, vi, vn]] w (NewD cb w.heap.size A L c (P + 3000) w Bd) := by
 have hM40 : n.ends.length ≤ 40 := Nat.le_trans hg.ends hM
 have Hin : Hid (n.inputs.length = n.ends.length) := hg.inputs
 have hrow100 : ∀ (k : Nat) (es : List (Int × Int)), n.ends[k]? = some es → es.length ≤ 100 := fun k es he => by have := hg.row k es he; omega
 have Hrow100 := Lib.hid hrow100
 have HM := Lib.hid hM
 have HBd := Lib.hid (hg.bd (by omega) (by omega))
 have hM2 : M ≤ 100 := by omega
 clear hrow100 hM
 have hcb := hc.lt
 obtain ⟨A1, c1, rfl, -, hm1, -⟩ := id h.1
 obtain ⟨AI, cI, rfl, -, -, -⟩ := id h.2.1
 obtain ⟨AN, cN, rfl, -, -, -⟩ := id h.2.2
 obtain ⟨pb, hpb⟩ : ∃ z, z = w.heap.size := ⟨_, rfl⟩
 obtain ⟨w0, hw0⟩ : ∃ z, z = w.alloc (.cells #[.slice A1 n.ends.length c1, .slice AI n.ids.length cI, .slice AN n.inputs.length cN] 27) := ⟨_, rfl⟩
 obtain ⟨wa, hwa⟩ : ∃ z, z = w0.alloc (.cells #[.slice none 0 0, .slice none 0 0, .slice none 0 0] 27) := ⟨_, rfl⟩
 have hs0 : Since w w0 := by rw [hw0]; exact since_alloc _ (since_refl _)
 have hs1 : Since w0 wa := by rw [hwa]; exact since_alloc _ (since_refl _)
 have h01 : w0.heap.size = w.heap.size + 1 := by rw [hw0]; simp
 have hb0 : Box3 w0 pb (.slice A1 n.ends.length c1) (.slice AI n.ids.length cI) (.slice AN n.inputs.length cN) := by rw [hw0, hpb]; exact Box3.new _ _ _ _ _
 have hba := hb0.below hs1 (by rw [h01, hpb]; omega)
 have hrb : BoxN wa (pb + 1) (.slice none 0 0) (.slice none 0 0) (.slice none 0 0) := by
  rw [hwa, hpb, ← h01]
  show (w0.heap.push _)[w0.heap.size]? = _
  rw [Array.getElem?_push_size]
 have hsw : Since w wa := hs0.after hs1
 have Hpb : Hid (cb < pb ∧ pb + 2 = wa.heap.size ∧ pb = w.heap.size) := ⟨by omega, by rw [hpb, hwa]; simp; omega, hpb⟩
 have Hsw := Lib.hid hsw
 have Hrb := Lib.hid hrb
 have Hba := Lib.hid hba
 have Hca := Lib.hid (hc.since hsw)
 have HNa := Lib.hid (h.keep hsw.below)
 have Hg := Lib.hid hg
 have Hw0 := Lib.hid hw0
 have Hwa := Lib.hid hwa
 have hbx := hba.cells
 have he40 : n.ends.length ≤ 100 := by have := hg.ends; omega
 clear hc h hs0 hs1 hb0 hrb hsw hba hg hw0 hwa hpb h01
 go_enter Tryz.func129, Tryz.ntmps129
 go_upto_region 1 with (fail)
 rw [← Hw0.out, ← Hwa.out, ← Hpb.out.2.2]
 obtain ⟨x0, x1, x2, f0, f1, f2⟩ := hbx
 go_wp2_with fail
 refine (neOwn_gen _ _ _ n wa HNa.out (by omega) (fun k es he => by have := Hg.out.row k es he; omega) (Hg.out.small hR hM2).sz).mono ?_
 rintro e w1 ⟨ue, ui, un, S0, rfl, ho, hb1⟩
 have hs1 : Since wa w1 := hb1
 obtain ⟨E1, e1, rfl, -, -, -⟩ := id ho.read.1
 obtain ⟨EI, eI, rfl, -, -, -⟩ := id ho.read.2.1
 obtain ⟨EN, eN, rfl, -, -, -⟩ := id ho.read.2.2
 clear x0 x1 x2 f0 f1 f2
 have hbx1 := Hba.out.below hs1 Hba.out.lt
 obtain ⟨x0, x1, x2, f0, f1, f2⟩ := hbx1.cells
 have hnb : pb ∉ S0 := fun hj => by have h1 := (ho.range _ hj).1; have h2 := Hpb.out; omega
 have hset : Mb cb w.heap.size pb A L c P w (set3 w1 pb (.slice E1 n.ends.length e1) (.slice EI n.ids.length eI) (.slice EN n.inputs.length eN)) (.slice E1 n.ends.length e1) (.slice EI n.ids.length eI) (.slice EN n.inputs.length eN) n S0 := by
  have h0 := Hpb.out
  refine ⟨(ho.stable (fun k hk => set3_blk _ _ _ _ _ (fun e => hnb (by have e' : k = pb := e; exact e' ▸ hk)))).mono (by omega), hbx1.set3 _ _ _, hnb, ((Hca.out.since hs1).keep (fun k hk => set3_blk _ _ _ _ _ (by omega))), ?_⟩
  exact ((((CB.of (Hsw.out.after hs1).below).mono (Nat.le_refl _)).setCell (p := ⟨pb, 0, none⟩) (.inl (by show _ ≤ pb; omega)) _).setCell (p := ⟨pb, 1, none⟩) (.inl (by show _ ≤ pb; omega)) _).setCell (p := ⟨pb, 2, none⟩) (.inl (by show _ ≤ pb; omega)) _
 have hr1 : BoxN (set3 w1 pb (.slice E1 n.ends.length e1) (.slice EI n.ids.length eI) (.slice EN n.inputs.length eN)) (pb + 1) (.slice none 0 0) (.slice none 0 0) (.slice none 0 0) := (set3_blk _ _ _ _ _ (by omega)).trans (Hrb.out.since hs1)
 have hz1 : wa.heap.size ≤ (set3 w1 pb (.slice E1 n.ends.length e1) (.slice EI n.ids.length eI) (.slice EN n.inputs.length eN)).heap.size := by rw [set3_size]; exact hs1.below.size
 have hn1 : pb + 1 ∉ S0 := fun hj => by have h1 := (ho.range _ hj).1; have h2 := Hpb.out; omega
 have Hset := Lib.hid hset
 have Hr1 := Lib.hid hr1
 have Hz1 := Lib.hid hz1
 have Hn1 := Lib.hid hn1
 have Hfz := Lib.hid (And.intro f0 (And.intro f1 f2))
 clear hset hr1 hz1 hn1 ho hb1 hs1 hbx1 hnb
 go_upto_region 2 with (fail)
 obtain ⟨w2, hw2⟩ : ∃ z, z = ((w1.setCell ⟨pb, 0, none⟩ (.slice E1 n.ends.length e1)).setCell ⟨pb, 1, none⟩ (.slice EI n.ids.length eI)).setCell ⟨pb, 2, none⟩ (.slice EN n.inputs.length eN) := ⟨_, rfl⟩
 rw [← hw2]
 have Hm2 : Hid (Mb cb w.heap.size pb A L c P w w2 (.slice E1 n.ends.length e1) (.slice EI n.ids.length eI) (.slice EN n.inputs.length eN) n S0) := by show Mb _ _ _ _ _ _ _ _ _ _ _ _ _ _; rw [hw2]; exact Hset.out
 have Hr2 : Hid (BoxN w2 (pb + 1) (.slice none 0 0) (.slice none 0 0) (.slice none 0 0)) := by show BoxN _ _ _ _ _; rw [hw2]; exact Hr1.out
 have Hz2 : Hid (wa.heap.size ≤ w2.heap.size) := by show _ ≤ _; rw [hw2]; exact Hz1.out
 have Hb2 : Hid (Br cb pb A L c P w w2 (.slice E1 n.ends.length e1) (.slice EI n.ids.length eI) (.slice EN n.inputs.length eN) n S0) := by show Br _ _ _ _ _ _ _ _ _ _ _ _ _; exact ⟨Hm2.out, Hr2.out, Hn1.out, Hpb.out.2.2, Hpb.out.1⟩
 clear hw2 Hset Hr1 Hz1 Hfz x0 x1 x2 f0 f1 f2 Hm2 Hr2 Hz2
 obtain ⟨g, rfl, -⟩ := Hb2.out.mb.own.head hn0
 obtain ⟨gN, rfl⟩ := Hb2.out.mb.own.headIn (by have := Hin.out; omega)
 have hpc : pb ≠ cb := by have := Hpb.out; omega
 obtain ⟨k0, -, -, -, -, -⟩ := Hb2.out.mb.box.cells
 go_wp2_with fail
 refine (pick_p cb A L c P (n.ends.length : Int) w2 Hb2.out.mb.cur (by omega) (by omega)).mono ?_
 rintro e w3 ⟨v, rfl, hv, hcu3, hC3⟩
 have hvl : v < n.ends.length := by omega
 have hvi : v < n.inputs.length := by have := Hin.out; omega
 have Hb3 := Lib.hid (Hb2.out.seen hC3 hcu3)
 clear hcu3 hC3 hv k0
 go_wp2_with fail
 refine (pick_p cb A L c (P + 2) 40 w3 Hb3.out.mb.cur (by omega) (by omega)).mono ?_
 rintro e w4 ⟨x, rfl, hx, hcu4, hC4⟩
 have Hb4 := Lib.hid (Hb3.out.seen hC4 hcu4)
 clear hcu4 hC4 hx
 obtain ⟨xv, hxe⟩ : ∃ x, x = rowN n v := ⟨_, rfl⟩
 have hxv := rowN_get hvl
 rw [← hxe] at hxv
 have Hxv := Lib.hid hxv
 have Hxl := Lib.hid (Hrow100.out _ _ hxv)
 have hgc : g ≠ cb := fun e => by
  obtain ⟨gr, Tr, -, -, -, -, -, hgS, -⟩ := Hb4.out.mb.own.growRow hxv
  have h1 := (Hb4.out.mb.own.range _ hgS).1
  have h2 := Hpb.out
  omega
 clear hxv hxe
 rcases (show x = 0 ∨ x = 1 ∨ x = 2 ∨ x = 3 ∨ x = 4 ∨ x = 5 ∨ x = 6 ∨ x = 7 ∨ x = 8 ∨ 9 ≤ x by omega) with rfl | rfl | rfl | rfl | rfl | rfl | rfl | rfl | rfl | h9
 ·go_upto_region 5 with (fail)
  refine wp_region_chainS (fun W => W.cell? ⟨pb, 2, none⟩ = some (.slice (some ⟨gN, 0, none⟩) n.inputs.length eN)) 6 [false, false, false, false, true, true] (by kernel_rfl) (by kernel_rfl) (show (World.drew w4).cell? ⟨pb, 2, none⟩ = some (.slice (some ⟨gN, 0, none⟩) n.inputs.length eN) from Hb4.out.mb.box.cells.2.2.1) ?_
  simp only [selF, selT, List.take_succ_cons, List.take_zero, List.drop_succ_cons, List.drop_zero]
  refine pflowS_val (v := ?_) rfl ?_ ?_; rotate_left; (intro W hW; (have k0 := hW); go_simp; with_reducible rfl)
  simp only [zA]
  refine pflowS_val (v := ?_) rfl ?_ ?_; rotate_left; (intro W hW; (have k0 := hW); go_simp; with_reducible rfl)
  simp only [zA]
  refine pflowS_val (v := ?_) rfl ?_ ?_; rotate_left; (intro W hW; (have k0 := hW); go_simp; with_reducible rfl)
  simp only [zA]
  refine pflowS_val (v := ?_) rfl ?_ ?_; rotate_left; (intro W hW; (have k0 := hW); go_simp; with_reducible rfl)
  simp only [zA]
  obtain ⟨W, hWd⟩ : ∃ W, W = World.drew w4 := ⟨_, rfl⟩
  rw [← hWd]
  have hW := (show (World.drew w4).cell? ⟨pb, 2, none⟩ = some (.slice (some ⟨gN, 0, none⟩) n.inputs.length eN) from Hb4.out.mb.box.cells.2.2.1)
  rw [← hWd] at hW
  have HWd := Lib.hid hWd
  clear hWd
  refine tflow_allocS (v := ?_) (ob := ?_) rfl ?_ ?_ ?_; rotate_left 2
  (go_simp; first | with_reducible rfl | (refine ⟨?_, ?_⟩ <;> with_reducible rfl))
  exact bc (below_alloc _ _) hW
  intro w5 hw5d hw5s
  replace hW := hw5s
  clear hw5s
  have hs5 : Since w4 w5 := (by rw [hw5d, HWd.out]; exact since_alloc _ (since_drew (since_refl _)))
  have Hb5 := Lib.hid ((Hb4.out).since hs5)
  have Ho5 : Hid (Own w5 w4.heap.size (.slice (some ⟨w4.heap.size, 0, none⟩) 3 3) [-1, 9, 10]) := (by show Own _ _ _ _; rw [hw5d, HWd.out]; exact lit_int [-1, 9, 10] rfl rfl (by simp) (Nat.le_refl _))
  have hcw : cb < w4.heap.size := (Hb4.out).mb.cur.lt
  rw [show W.heap.size = w4.heap.size from by rw [HWd.out]; rfl]
  clear hw5d hs5
  (try simp only [zA])
  refine Or.inl ⟨rfl, ?_⟩
  go_simp
  (with_reducible refine (among_q cb A L c (P + 4) w4.heap.size w4.heap.size 3 3 [-1, 9, 10] _ rfl Hb5.out.mb.cur (by omega) Ho5.out hcw (by simp) (by simp)).mono ?_)
  rintro e W' ⟨a, rfl, ha, hcu, hC⟩
  refine ⟨_, rfl, seen_cell hW hpc _ hC, ?_⟩
  replace hW := seen_cell hW hpc _ hC
  have Hb6 := Lib.hid (Hb5.out.seen hC hcu)
  clear hcu hC ha
  (try simp only [zA])
  simp only [TFlow]
  obtain ⟨f9, ⟨z9, c9⟩, hb7⟩ := Hb6.out.setIn (k := v) a (by have := Hin.out; omega)
  have Hb7 := Lib.hid hb7
  clear hb7
  go_upto_region 29 with (fail)
  obtain ⟨w7, hw7⟩ : ∃ z, z = W'.setCell ⟨gN, v, none⟩ (.int .i64 a) := ⟨_, rfl⟩
  rw [← hw7]
  rw [← hw7] at Hb7
  clear hw7 hW c9 f9
  obtain ⟨k0, k1, k2, -, -, -⟩ := (Hb7.out).mb.box.cells
  obtain ⟨e0, e1', e2, f0, f1, f2⟩ := (Hb7.out).rb.box.cells
  have Hret := Lib.hid (Hb7.out).ret
  go_wp2
  refine bodyPost_ret (v := .agg #[.slice (some ⟨g, 0, none⟩) n.ends.length e1, .slice EI n.ids.length eI, .slice (some ⟨gN, 0, none⟩) n.inputs.length eN]) (by simp [results, Tryz.results129, go_sem, *]) rfl ?_
  obtain ⟨r1, r2, r3⟩ := Hret.out
  exact ⟨_, _, _, _, _, rfl, r1, ⟨HBd.out.ends, HBd.out.row, HBd.out.ids, by show (List.set _ _ _).length ≤ _; rw [List.length_set]; exact HBd.out.inputs⟩, r2.mono (by omega), r3⟩
 ·have hsA : Since w4 (w4.alloc (.cells #[.int .i64 0] 3)) := since_alloc _ (since_refl _)
  have Hb5 := Lib.hid (Hb4.out.since hsA)
  clear hsA
  obtain ⟨k0, k1, k2, f0, f1, f2⟩ := Hb4.out.mb.box.cells
  go_upto_region 29 with (at_builtin; refine app_intsA (base := w.heap.size) rfl _ _ rfl rfl Hb5.out.mb.ownIn.1.1 rfl (one_int _ _) (by have := HBd.out.inputs; simp; omega) Hb5.out.sz ?_; intro v' w6 T ho6 hon6 hT6; obtain ⟨V, mV, cV, rfl⟩ := lawI.one ho6; obtain ⟨hb6, S6, hb7⟩ := Hb5.out.putIn ho6 hon6 hT6; clear k0 k1 k2 f0 f1 f2 ho6 hon6 hT6; obtain ⟨k0, k1, k2, f0, f1, f2⟩ := hb6.cells; have Hb7 := Lib.hid hb7; clear hb6 hb7)
  obtain ⟨w7, hw7⟩ : ∃ z, z = w6.setCell ⟨pb, 2, none⟩ (.slice V mV cV) := ⟨_, rfl⟩
  rw [← hw7]
  rw [← hw7] at Hb7
  clear hw7 k0 k1 k2 f0 f1 f2
  obtain ⟨k0, k1, k2, -, -, -⟩ := (Hb7.out).mb.box.cells
  obtain ⟨e0, e1', e2, f0, f1, f2⟩ := (Hb7.out).rb.box.cells
  have Hret := Lib.hid (Hb7.out).ret
  go_wp2
  refine bodyPost_ret (v := .agg #[.slice (some ⟨g, 0, none⟩) n.ends.length e1, .slice EI n.ids.length eI, .slice V mV cV]) (by simp [results, Tryz.results129, go_sem, *]) rfl ?_
  obtain ⟨r1, r2, r3⟩ := Hret.out
  exact ⟨_, _, _, _, _, rfl, r1, ⟨HBd.out.ends, HBd.out.row, HBd.out.ids, by have := Hin.out; simp; omega⟩, r2.mono (by omega), r3⟩
 ·have hx := Hxv.out
  by_cases hx0 : 0 < xv.length
  ·obtain ⟨gr, cr, hcr, -, -, -, -, -, -⟩ := Hb4.out.setEnd hx hx0
   have e0 : ((0 : Int) < (xv.length : Int)) = True := by simp; omega
   obtain ⟨k0, -, -, -, -, -⟩ := Hb4.out.mb.box.cells
   go_upto_region 10 with (fail)
   refine wp_region_chainS (fun W => W.cell? ⟨pb, 0, none⟩ = some (.slice (some ⟨g, 0, none⟩) n.ends.length e1) ∧ W.cell? ⟨g, v, none⟩ = some (.slice (some ⟨gr, 0, none⟩) xv.length cr)) 8 [false, false, false, false, false, false, true, true] (by kernel_rfl) (by kernel_rfl) (show (World.drew w4).cell? ⟨pb, 0, none⟩ = some (.slice (some ⟨g, 0, none⟩) n.ends.length e1) ∧ (World.drew w4).cell? ⟨g, v, none⟩ = some (.slice (some ⟨gr, 0, none⟩) xv.length cr) from ⟨Hb4.out.mb.box.cells.1, hcr⟩) ?_
   simp only [selF, selT, List.take_succ_cons, List.take_zero, List.drop_succ_cons, List.drop_zero]
   refine pflowS_val (v := ?_) rfl ?_ ?_; rotate_left; (intro W hW; (obtain ⟨k0, k1⟩ := hW); go_simp; with_reducible rfl)
   simp only [zA]
   refine pflowS_val (v := ?_) rfl ?_ ?_; rotate_left; (intro W hW; (obtain ⟨k0, k1⟩ := hW); go_simp; with_reducible rfl)
   simp only [zA]
   refine pflowS_val (v := ?_) rfl ?_ ?_; rotate_left; (intro W hW; (obtain ⟨k0, k1⟩ := hW); go_simp; with_reducible rfl)
   simp only [zA]
   refine pflowS_val (v := ?_) rfl ?_ ?_; rotate_left; (intro W hW; (obtain ⟨k0, k1⟩ := hW); go_simp; with_reducible rfl)
   simp only [zA]
   refine pflowS_val (v := ?_) rfl ?_ ?_; rotate_left; (intro W hW; (obtain ⟨k0, k1⟩ := hW); go_simp; with_reducible rfl)
   simp only [zA]
   refine pflowS_val (v := ?_) rfl ?_ ?_; rotate_left; (intro W hW; (obtain ⟨k0, k1⟩ := hW); go_simp; with_reducible rfl)
   simp only [zA]
   obtain ⟨W, hWd⟩ : ∃ W, W = World.drew w4 := ⟨_, rfl⟩
   rw [← hWd]
   have hW := (show (World.drew w4).cell? ⟨pb, 0, none⟩ = some (.slice (some ⟨g, 0, none⟩) n.ends.length e1) ∧ (World.drew w4).cell? ⟨g, v, none⟩ = some (.slice (some ⟨gr, 0, none⟩) xv.length cr) from ⟨Hb4.out.mb.box.cells.1, hcr⟩)
   rw [← hWd] at hW
   have HWd := Lib.hid hWd
   clear hWd
   refine tflow_allocS (v := ?_) (ob := ?_) rfl ?_ ?_ ?_; rotate_left 2
   (go_simp; first | with_reducible rfl | (refine ⟨?_, ?_⟩ <;> with_reducible rfl))
   exact ⟨bc (below_alloc _ _) hW.1, bc (below_alloc _ _) hW.2⟩
   intro w5 hw5d hw5s
   replace hW := hw5s
   clear hw5s
   have hs5 : Since w4 w5 := (by rw [hw5d, HWd.out]; exact since_alloc _ (since_drew (since_refl _)))
   have Hb5 := Lib.hid ((Hb4.out).since hs5)
   have Ho5 : Hid (Own w5 w4.heap.size (.slice (some ⟨w4.heap.size, 0, none⟩) 4 4) [-1, 0, 1, 6]) := (by show Own _ _ _ _; rw [hw5d, HWd.out]; exact lit_int [-1, 0, 1, 6] rfl rfl (by simp) (Nat.le_refl _))
   have hcw : cb < w4.heap.size := (Hb4.out).mb.cur.lt
   rw [show W.heap.size = w4.heap.size from by rw [HWd.out]; rfl]
   clear hw5d hs5
   (try simp only [zA])
   refine Or.inl ⟨rfl, ?_⟩
   go_simp
   (with_reducible refine (among_q cb A L c (P + 4) w4.heap.size w4.heap.size 4 4 [-1, 0, 1, 6] _ rfl Hb5.out.mb.cur (by omega) Ho5.out hcw (by simp) (by simp)).mono ?_)
   rintro e W' ⟨a, rfl, ha, hcu, hC⟩
   refine ⟨_, rfl, And.intro (seen_cell hW.1 hpc _ hC) (seen_cell hW.2 hgc _ hC), ?_⟩
   replace hW := And.intro (seen_cell hW.1 hpc _ hC) (seen_cell hW.2 hgc _ hC)
   have Hb6 := Lib.hid (Hb5.out.seen hC hcu)
   clear hcu hC ha
   (try simp only [zA])
   simp only [TFlow]
   obtain ⟨gr2, cr2, h1, f0, f1, ⟨z0, c0⟩, ⟨z1, c1⟩, hA, hB⟩ := Hb6.out.setEnd hx hx0
   rw [hW.2] at h1
   injection h1 with h1
   injection h1 with h1 h2 h3
   injection h1 with h1
   injection h1 with h1
   subst h1
   obtain ⟨y, hb7⟩ := hB a
   have Hb7 := Lib.hid hb7
   clear hA hB hb7 k0
   go_upto_region 29 with (fail)
   obtain ⟨w7, hw7⟩ : ∃ z, z = W'.setCell ⟨gr, 1, none⟩ (.int .i64 a) := ⟨_, rfl⟩
   rw [← hw7]
   rw [← hw7] at Hb7
   clear hw7 hW c0 c1 f0 f1 e0 hcr
   obtain ⟨k0, k1, k2, -, -, -⟩ := (Hb7.out).mb.box.cells
   obtain ⟨e0, e1', e2, f0, f1, f2⟩ := (Hb7.out).rb.box.cells
   have Hret := Lib.hid (Hb7.out).ret
   go_wp2
   refine bodyPost_ret (v := .agg #[.slice (some ⟨g, 0, none⟩) n.ends.length e1, .slice EI n.ids.length eI, .slice (some ⟨gN, 0, none⟩) n.inputs.length eN]) (by simp [results, Tryz.results129, go_sem, *]) rfl ?_
   obtain ⟨r1, r2, r3⟩ := Hret.out
   exact ⟨_, _, _, _, _, rfl, r1, HBd.out.setRow v (by rw [List.length_set]; have := Hxl.out; omega), r2.mono (by omega), r3⟩
  ·have hxz : xv.length = 0 := by omega
   obtain ⟨u0, T0, hu0, -, hR0, -, -, -⟩ := Hb4.out.mb.own.rowCell hx
   obtain ⟨AU, cU, rfl, -, -, -⟩ := id hR0.read
   have hxe : xv = [] := List.eq_nil_of_length_eq_zero hxz
   rw [hxz] at hu0
   clear hR0
   obtain ⟨k0, -, -, -, -, -⟩ := Hb4.out.mb.box.cells
   go_upto_region 29 with (fail)
   clear k0 hu0
   obtain ⟨k0, k1, k2, -, -, -⟩ := (Hb4.out).mb.box.cells
   obtain ⟨e0, e1', e2, f0, f1, f2⟩ := (Hb4.out).rb.box.cells
   have Hret := Lib.hid (Hb4.out).ret
   go_wp2
   refine bodyPost_ret (v := .agg #[.slice (some ⟨g, 0, none⟩) n.ends.length e1, .slice EI n.ids.length eI, .slice (some ⟨gN, 0, none⟩) n.inputs.length eN]) (by simp [results, Tryz.results129, go_sem, *]) rfl ?_
   obtain ⟨r1, r2, r3⟩ := Hret.out
   exact ⟨_, _, _, _, _, rfl, r1, HBd.out, r2.mono (by omega), r3⟩
 ·have hx := Hxv.out
  by_cases hx0 : 0 < xv.length
  ·obtain ⟨gr, cr, hcr, -, -, -, -, -, -⟩ := Hb4.out.setEnd hx hx0
   have e0 : ((0 : Int) < (xv.length : Int)) = True := by simp; omega
   obtain ⟨k0, -, -, -, -, -⟩ := Hb4.out.mb.box.cells
   go_upto_region 13 with (fail)
   refine wp_region_chainS (fun W => W.cell? ⟨pb, 0, none⟩ = some (.slice (some ⟨g, 0, none⟩) n.ends.length e1) ∧ W.cell? ⟨g, v, none⟩ = some (.slice (some ⟨gr, 0, none⟩) xv.length cr)) 11 [false, false, false, false, false, false, false, false, false, true, true] (by kernel_rfl) (by kernel_rfl) (show (World.drew w4).cell? ⟨pb, 0, none⟩ = some (.slice (some ⟨g, 0, none⟩) n.ends.length e1) ∧ (World.drew w4).cell? ⟨g, v, none⟩ = some (.slice (some ⟨gr, 0, none⟩) xv.length cr) from ⟨Hb4.out.mb.box.cells.1, hcr⟩) ?_
   simp only [selF, selT, List.take_succ_cons, List.take_zero, List.drop_succ_cons, List.drop_zero]
   refine pflowS_val (v := ?_) rfl ?_ ?_; rotate_left; (intro W hW; (obtain ⟨k0, k1⟩ := hW); go_simp; with_reducible rfl)
   simp only [zA]
   refine pflowS_val (v := ?_) rfl ?_ ?_; rotate_left; (intro W hW; (obtain ⟨k0, k1⟩ := hW); go_simp; with_reducible rfl)
   simp only [zA]
   refine pflowS_val (v := ?_) rfl ?_ ?_; rotate_left; (intro W hW; (obtain ⟨k0, k1⟩ := hW); go_simp; with_reducible rfl)
   simp only [zA]
   refine pflowS_val (v := ?_) rfl ?_ ?_; rotate_left; (intro W hW; (obtain ⟨k0, k1⟩ := hW); go_simp; with_reducible rfl)
   simp only [zA]
   refine pflowS_val (v := ?_) rfl ?_ ?_; rotate_left; (intro W hW; (obtain ⟨k0, k1⟩ := hW); go_simp; with_reducible rfl)
   simp only [zA]
   refine pflowS_val (v := ?_) rfl ?_ ?_; rotate_left; (intro W hW; (obtain ⟨k0, k1⟩ := hW); go_simp; with_reducible rfl)
   simp only [zA]
   refine pflowS_val (v := ?_) rfl ?_ ?_; rotate_left; (intro W hW; (obtain ⟨k0, k1⟩ := hW); go_simp; with_reducible rfl)
   simp only [zA]
   refine pflowS_val (v := ?_) rfl ?_ ?_; rotate_left; (intro W hW; (obtain ⟨k0, k1⟩ := hW); go_simp; with_reducible rfl)
   simp only [zA]
   refine pflowS_val (v := ?_) rfl ?_ ?_; rotate_left; (intro W hW; (obtain ⟨k0, k1⟩ := hW); go_simp; with_reducible rfl)
   simp only [zA]
   obtain ⟨W, hWd⟩ : ∃ W, W = World.drew w4 := ⟨_, rfl⟩
   rw [← hWd]
   have hW := (show (World.drew w4).cell? ⟨pb, 0, none⟩ = some (.slice (some ⟨g, 0, none⟩) n.ends.length e1) ∧ (World.drew w4).cell? ⟨g, v, none⟩ = some (.slice (some ⟨gr, 0, none⟩) xv.length cr) from ⟨Hb4.out.mb.box.cells.1, hcr⟩)
   rw [← hWd] at hW
   have HWd := Lib.hid hWd
   clear hWd
   refine tflow_allocS (v := ?_) (ob := ?_) rfl ?_ ?_ ?_; rotate_left 2
   (go_simp; first | with_reducible rfl | (refine ⟨?_, ?_⟩ <;> with_reducible rfl))
   exact ⟨bc (below_alloc _ _) hW.1, bc (below_alloc _ _) hW.2⟩
   intro w5 hw5d hw5s
   replace hW := hw5s
   clear hw5s
   have hs5 : Since w4 w5 := (by rw [hw5d, HWd.out]; exact since_alloc _ (since_drew (since_refl _)))
   have Hb5 := Lib.hid ((Hb4.out).since hs5)
   have Ho5 : Hid (Own w5 w4.heap.size (.slice (some ⟨w4.heap.size, 0, none⟩) 3 3) [-1, 0, (n.ends.length : Int)]) := (by show Own _ _ _ _; rw [hw5d, HWd.out]; exact lit_int [-1, 0, (n.ends.length : Int)] rfl rfl (by simp) (Nat.le_refl _))
   have hcw : cb < w4.heap.size := (Hb4.out).mb.cur.lt
   rw [show W.heap.size = w4.heap.size from by rw [HWd.out]; rfl]
   clear hw5d hs5
   (try simp only [zA])
   refine Or.inl ⟨rfl, ?_⟩
   go_simp
   (with_reducible refine (among_q cb A L c (P + 4) w4.heap.size w4.heap.size 3 3 [-1, 0, (n.ends.length : Int)] _ rfl Hb5.out.mb.cur (by omega) Ho5.out hcw (by simp) (by simp)).mono ?_)
   rintro e W' ⟨a, rfl, ha, hcu, hC⟩
   refine ⟨_, rfl, And.intro (seen_cell hW.1 hpc _ hC) (seen_cell hW.2 hgc _ hC), ?_⟩
   replace hW := And.intro (seen_cell hW.1 hpc _ hC) (seen_cell hW.2 hgc _ hC)
   have Hb6 := Lib.hid (Hb5.out.seen hC hcu)
   clear hcu hC ha
   (try simp only [zA])
   simp only [TFlow]
   obtain ⟨gr2, cr2, h1, f0, f1, ⟨z0, c0⟩, ⟨z1, c1⟩, hA, hB⟩ := Hb6.out.setEnd hx hx0
   rw [hW.2] at h1
   injection h1 with h1
   injection h1 with h1 h2 h3
   injection h1 with h1
   injection h1 with h1
   subst h1
   obtain ⟨y, hb7⟩ := hA a
   have Hb7 := Lib.hid hb7
   clear hA hB hb7 k0
   go_upto_region 29 with (fail)
   obtain ⟨w7, hw7⟩ : ∃ z, z = W'.setCell ⟨gr, 0, none⟩ (.int .i64 a) := ⟨_, rfl⟩
   rw [← hw7]
   rw [← hw7] at Hb7
   clear hw7 hW c0 c1 f0 f1 e0 hcr
   obtain ⟨k0, k1, k2, -, -, -⟩ := (Hb7.out).mb.box.cells
   obtain ⟨e0, e1', e2, f0, f1, f2⟩ := (Hb7.out).rb.box.cells
   have Hret := Lib.hid (Hb7.out).ret
   go_wp2
   refine bodyPost_ret (v := .agg #[.slice (some ⟨g, 0, none⟩) n.ends.length e1, .slice EI n.ids.length eI, .slice (some ⟨gN, 0, none⟩) n.inputs.length eN]) (by simp [results, Tryz.results129, go_sem, *]) rfl ?_
   obtain ⟨r1, r2, r3⟩ := Hret.out
   exact ⟨_, _, _, _, _, rfl, r1, HBd.out.setRow v (by rw [List.length_set]; have := Hxl.out; omega), r2.mono (by omega), r3⟩
  ·have hxz : xv.length = 0 := by omega
   obtain ⟨u0, T0, hu0, -, hR0, -, -, -⟩ := Hb4.out.mb.own.rowCell hx
   obtain ⟨AU, cU, rfl, -, -, -⟩ := id hR0.read
   have hxe : xv = [] := List.eq_nil_of_length_eq_zero hxz
   rw [hxz] at hu0
   clear hR0
   obtain ⟨k0, -, -, -, -, -⟩ := Hb4.out.mb.box.cells
   go_upto_region 29 with (fail)
   clear k0 hu0
   obtain ⟨k0, k1, k2, -, -, -⟩ := (Hb4.out).mb.box.cells
   obtain ⟨e0, e1', e2, f0, f1, f2⟩ := (Hb4.out).rb.box.cells
   have Hret := Lib.hid (Hb4.out).ret
   go_wp2
   refine bodyPost_ret (v := .agg #[.slice (some ⟨g, 0, none⟩) n.ends.length e1, .slice EI n.ids.length eI, .slice (some ⟨gN, 0, none⟩) n.inputs.length eN]) (by simp [results, Tryz.results129, go_sem, *]) rfl ?_
   obtain ⟨r1, r2, r3⟩ := Hret.out
   exact ⟨_, _, _, _, _, rfl, r1, HBd.out, r2.mono (by omega), r3⟩
 ·go_upto_region 15 with (fail)
  go_loopw [83] (fun _ wr => ∃ (N : Net) (S : List Nat) (xs : List (Int × Int)), Br cb pb A L c (P + 4 + 2 * xs.length) w wr (.slice (some ⟨g, 0, none⟩) n.ends.length e1) (.slice EI n.ids.length eI) (.slice (some ⟨gN, 0, none⟩) n.inputs.length eN) N S ∧ N.ends.length = n.ends.length ∧ N.ends[v]? = some xs ∧ Bd N ∧ xs.length ≤ 200) (fun _ wr => 8 - cellLen (wr.cell? ⟨g, v, none⟩))
  case atStart => exact ⟨n, _, xv, Hb4.out.up (by omega), rfl, Hxv.out, HBd.out, by have := Hxl.out; omega⟩
  case round =>
   obtain ⟨N, S, xs, hb, hNl, hxs, hNb, hxl⟩ := hrel
   obtain ⟨wo, rfl⟩ : ∃ z, z = wr := ⟨_, rfl⟩
   obtain ⟨u0, T0, hu0, -, hR0, -, -, -⟩ := hb.mb.own.rowCell hxs
   obtain ⟨AU, cU, rfl, -, -, -⟩ := id hR0.read
   have Hb0' := Lib.hid hb
   have Hxs := Lib.hid hxs
   have HNb := Lib.hid hNb
   have HNl := Lib.hid hNl
   have Hu0 := Lib.hid hu0
   clear hb hxs hNb hNl hR0 hu0
   go_upto_region 15 with (fail)
   refine wp_region_chainS (fun W => W.cell? ⟨pb, 0, none⟩ = some (.slice (some ⟨g, 0, none⟩) n.ends.length e1) ∧ W.cell? ⟨g, v, none⟩ = some (.slice AU xs.length cU)) 10 [false, false, false, false, false, false, false, true, true, true] (by kernel_rfl) (by kernel_rfl) (show (World.drew wo).cell? ⟨pb, 0, none⟩ = some (.slice (some ⟨g, 0, none⟩) n.ends.length e1) ∧ (World.drew wo).cell? ⟨g, v, none⟩ = some (.slice AU xs.length cU) from ⟨Hb0'.out.mb.box.cells.1, Hu0.out⟩) ?_
   simp only [selF, selT, List.take_succ_cons, List.take_zero, List.drop_succ_cons, List.drop_zero]
   refine pflowS_val (v := ?_) rfl ?_ ?_; rotate_left; (intro W hW; (obtain ⟨k0, k1⟩ := hW); go_simp; with_reducible rfl)
   simp only [zA]
   refine pflowS_val (v := ?_) rfl ?_ ?_; rotate_left; (intro W hW; (obtain ⟨k0, k1⟩ := hW); go_simp; with_reducible rfl)
   simp only [zA]
   refine pflowS_val (v := ?_) rfl ?_ ?_; rotate_left; (intro W hW; (obtain ⟨k0, k1⟩ := hW); go_simp; with_reducible rfl)
   simp only [zA]
   refine pflowS_val (v := ?_) rfl ?_ ?_; rotate_left; (intro W hW; (obtain ⟨k0, k1⟩ := hW); go_simp; with_reducible rfl)
   simp only [zA]
   refine pflowS_val (v := ?_) rfl ?_ ?_; rotate_left; (intro W hW; (obtain ⟨k0, k1⟩ := hW); go_simp; with_reducible rfl)
   simp only [zA]
   refine pflowS_val (v := ?_) rfl ?_ ?_; rotate_left; (intro W hW; (obtain ⟨k0, k1⟩ := hW); go_simp; with_reducible rfl)
   simp only [zA]
   refine pflowS_val (v := ?_) rfl ?_ ?_; rotate_left; (intro W hW; (obtain ⟨k0, k1⟩ := hW); go_simp; with_reducible rfl)
   simp only [zA]
   obtain ⟨W, hWd⟩ : ∃ W, W = World.drew wo := ⟨_, rfl⟩
   rw [← hWd]
   have hW := (show (World.drew wo).cell? ⟨pb, 0, none⟩ = some (.slice (some ⟨g, 0, none⟩) n.ends.length e1) ∧ (World.drew wo).cell? ⟨g, v, none⟩ = some (.slice AU xs.length cU) from ⟨Hb0'.out.mb.box.cells.1, Hu0.out⟩)
   rw [← hWd] at hW
   have HWd := Lib.hid hWd
   clear hWd
   refine Or.inl ⟨rfl, ?_⟩
   go_simp
   (with_reducible refine (pick_p cb A L c (P + 4 + 2 * xs.length) 2 W (by rw [HWd.out]; exact Hb0'.out.mb.cur.since (since_drew (since_refl _))) (by omega) (by omega)).mono ?_)
   rintro e W' ⟨b, rfl, hb, hcu, hC⟩
   refine ⟨_, rfl, And.intro (seen_cell hW.1 hpc _ hC) (seen_cell hW.2 hgc _ hC), ?_⟩
   replace hW := And.intro (seen_cell hW.1 hpc _ hC) (seen_cell hW.2 hgc _ hC)
   have hS1 : Since wo W := (by rw [HWd.out]; exact since_drew (since_refl _))
   have Hb7 := Lib.hid (Hb0'.out.seen (((Seen.refl cb wo).after hS1).trans hC) hcu)
   have hb2 : b < 2 := (by omega)
   have m1 : IntKind.i64.wrap (6 + (b : Int)) = 6 + (b : Int) := wr64 _ (by omega) (by omega)
   clear hC hcu hS1 hb
   (try simp only [zA])
   refine tflow_val (v := ?_) rfl ?_ hW ?_; rotate_left; (go_simp; with_reducible rfl)
   simp only [zA]
   refine tflow_val (v := ?_) rfl ?_ hW ?_; rotate_left; (go_simp; with_reducible rfl)
   simp only [zA]
   simp only [TFlow]
   obtain ⟨w7, rfl⟩ : ∃ z, z = W' := ⟨_, rfl⟩
   have HW7 := Lib.hid hW
   clear hW
   by_cases hlt : xs.length < 6 + b
   ·have e0 : ((xs.length : Int) < 6 + (b : Int)) = True := by simp; omega
    obtain ⟨u2, T2, hu2, hf2, hR2, hTS2, hgT2, hgS2, hgrow2⟩ := Hb7.out.mb.own.growRow Hxs.out
    have hu2e := hu2
    rw [HW7.out.2] at hu2e
    have hu2e := Option.some.inj hu2e
    subst hu2e
    have HR2 := Lib.hid hR2
    have Hgrow2 := Lib.hid hgrow2
    have HgT2 := Lib.hid hgT2
    have HgS2 := Lib.hid hgS2
    have HTS2 := Lib.hid hTS2
    have Hf2 := Lib.hid hf2
    have HbT2 : Hid (pb ∉ T2) := fun h => Hb7.out.mb.nb (hTS2 _ h)
    have HL2 : Hid (xs.length + 1 ≤ 1000000) := by show _ ≤ _; omega
    have HBs2 : Hid (w.heap.size ≤ w7.heap.size) := Hb7.out.sz
    clear hu2 hf2 hR2 hTS2 hgT2 hgS2 hgrow2
    go_upto_region 16 with (fail)
    refine wp_region_chainS (fun W => W.cell? ⟨pb, 0, none⟩ = some (.slice (some ⟨g, 0, none⟩) n.ends.length e1) ∧ W.cell? ⟨g, v, none⟩ = some (.slice AU xs.length cU)) 18 [false, false, false, false, false, false, false, false, false, false, false, false, false, false, false, false, true, true] (by kernel_rfl) (by kernel_rfl) (show (World.drew w7).cell? ⟨pb, 0, none⟩ = some (.slice (some ⟨g, 0, none⟩) n.ends.length e1) ∧ (World.drew w7).cell? ⟨g, v, none⟩ = some (.slice AU xs.length cU) from ⟨HW7.out.1, HW7.out.2⟩) ?_
    simp only [selF, selT, List.take_succ_cons, List.take_zero, List.drop_succ_cons, List.drop_zero]
    refine pflowS_val (v := ?_) rfl ?_ ?_; rotate_left; (intro W hW; (obtain ⟨k0, k1⟩ := hW); go_simp; with_reducible rfl)
    simp only [zA]
    refine pflowS_val (v := ?_) rfl ?_ ?_; rotate_left; (intro W hW; (obtain ⟨k0, k1⟩ := hW); go_simp; with_reducible rfl)
    simp only [zA]
    refine pflowS_val (v := ?_) rfl ?_ ?_; rotate_left; (intro W hW; (obtain ⟨k0, k1⟩ := hW); go_simp; with_reducible rfl)
    simp only [zA]
    refine pflowS_val (v := ?_) rfl ?_ ?_; rotate_left; (intro W hW; (obtain ⟨k0, k1⟩ := hW); go_simp; with_reducible rfl)
    simp only [zA]
    refine pflowS_val (v := ?_) rfl ?_ ?_; rotate_left; (intro W hW; (obtain ⟨k0, k1⟩ := hW); go_simp; with_reducible rfl)
    simp only [zA]
    refine pflowS_val (v := ?_) rfl ?_ ?_; rotate_left; (intro W hW; (obtain ⟨k0, k1⟩ := hW); go_simp; with_reducible rfl)
    simp only [zA]
    refine pflowS_val (v := ?_) rfl ?_ ?_; rotate_left; (intro W hW; (obtain ⟨k0, k1⟩ := hW); go_simp; with_reducible rfl)
    simp only [zA]
    refine pflowS_val (v := ?_) rfl ?_ ?_; rotate_left; (intro W hW; (obtain ⟨k0, k1⟩ := hW); go_simp; with_reducible rfl)
    simp only [zA]
    refine pflowS_val (v := ?_) rfl ?_ ?_; rotate_left; (intro W hW; (obtain ⟨k0, k1⟩ := hW); go_simp; with_reducible rfl)
    simp only [zA]
    refine pflowS_val (v := ?_) rfl ?_ ?_; rotate_left; (intro W hW; (obtain ⟨k0, k1⟩ := hW); go_simp; with_reducible rfl)
    simp only [zA]
    refine pflowS_val (v := ?_) rfl ?_ ?_; rotate_left; (intro W hW; (obtain ⟨k0, k1⟩ := hW); go_simp; with_reducible rfl)
    simp only [zA]
    refine pflowS_val (v := ?_) rfl ?_ ?_; rotate_left; (intro W hW; (obtain ⟨k0, k1⟩ := hW); go_simp; with_reducible rfl)
    simp only [zA]
    refine pflowS_val (v := ?_) rfl ?_ ?_; rotate_left; (intro W hW; (obtain ⟨k0, k1⟩ := hW); go_simp; with_reducible rfl)
    simp only [zA]
    refine pflowS_val (v := ?_) rfl ?_ ?_; rotate_left; (intro W hW; (obtain ⟨k0, k1⟩ := hW); go_simp; with_reducible rfl)
    simp only [zA]
    refine pflowS_val (v := ?_) rfl ?_ ?_; rotate_left; (intro W hW; (obtain ⟨k0, k1⟩ := hW); go_simp; with_reducible rfl)
    simp only [zA]
    refine pflowS_val (v := ?_) rfl ?_ ?_; rotate_left; (intro W hW; (obtain ⟨k0, k1⟩ := hW); go_simp; with_reducible rfl)
    simp only [zA]
    obtain ⟨W, hWd⟩ : ∃ W, W = World.drew w7 := ⟨_, rfl⟩
    rw [← hWd]
    have hW := (show (World.drew w7).cell? ⟨pb, 0, none⟩ = some (.slice (some ⟨g, 0, none⟩) n.ends.length e1) ∧ (World.drew w7).cell? ⟨g, v, none⟩ = some (.slice AU xs.length cU) from ⟨HW7.out.1, HW7.out.2⟩)
    rw [← hWd] at hW
    have HWd := Lib.hid hWd
    clear hWd
    refine tflow_allocS (v := ?_) (ob := ?_) rfl ?_ ?_ ?_; rotate_left 2
    (go_simp; first | with_reducible rfl | (refine ⟨?_, ?_⟩ <;> with_reducible rfl))
    exact ⟨bc (below_alloc _ _) hW.1, bc (below_alloc _ _) hW.2⟩
    intro w8 hw8d hw8s
    replace hW := hw8s
    clear hw8s
    have Hd8 : Hid (w8 = (World.drew w7).alloc (.cells #[.int .i64 (v : Int), .int .i64 (xs.length : Int)] 83)) := by show _ = _; rw [hw8d, HWd.out]
    have Hs8 : Hid (Since w7 w8) := by show Since _ _; rw [Hd8.out]; exact since_alloc _ (since_drew (since_refl _))
    have Ho8 : Hid (OwnE w8 w.heap.size (.slice AU xs.length cU) xs T2) := lawE.keep HR2.out Hs8.out.below
    have Hc8 : Hid (w8.cell? ⟨w7.heap.size, 0, none⟩ = some (.int .i64 (v : Int)) ∧ w8.cell? ⟨w7.heap.size, 1, none⟩ = some (.int .i64 (xs.length : Int))) := by show _ ∧ _; rw [Hd8.out]; exact cell_two (World.drew w7) _ _ _
    rw [show W.heap.size = w7.heap.size from by rw [HWd.out]; rfl]
    clear hw8d HWd
    (try simp only [zA])
    refine tflow_of_wp (fun Q' HQ => ?_)
    (refine app_endH (base := w.heap.size) (v := .slice AU xs.length cU) (xs := xs) rfl _ _ rfl rfl Ho8.out w7.heap.size ((v : Int), (xs.length : Int)) rfl Hc8.out.1 Hc8.out.2 HL2.out (Nat.le_trans HBs2.out Hs8.out.below.size) ?_); intro g9 cc9 w9 ho9 hg9 hl9; have hon9 := Only.of_grown hg9; have ht9 : (Value.slice AU xs.length cU).ownBlock.toList = T2 := (HR2.out.2).symm; have hn1 : (⟨pb, 0, none⟩ : Addr).block ∉ (Value.slice AU xs.length cU).ownBlock.toList := (by rw [ht9]; exact HbT2.out); have hn2 : (⟨g, v, none⟩ : Addr).block ∉ (Value.slice AU xs.length cU).ownBlock.toList := (by rw [ht9]; exact HgT2.out); have hk1 := hon9.cell hn1 hW.1; have hk2 := hon9.cell hn2 hW.2; have hk3 := hon9.fz hn2 hW.2 (bf Hs8.out.below HW7.out.2 Hf2.out); refine HQ _ _ ⟨hk1, hk2⟩ ?_; have Hz9 := Lib.hid (add_end Hgrow2.out HR2.out Hs8.out ho9 hg9 hl9 HTS2.out HgS2.out); clear ho9 hg9 hl9 hn1 hn2 hon9 ht9 hW
    (try simp only [zA])
    simp only [TFlow]
    obtain ⟨S5, hz1, hz2, hz3⟩ := Hz9.out
    have Hb9 := Lib.hid (Hb7.out.own hz1 hz2 hz3)
    have hro : (N.ends.set v (xs ++ [((v : Int), (xs.length : Int))]))[v]? = some (xs ++ [((v : Int), (xs.length : Int))]) := by rw [List.getElem?_set_self (by have := HNl.out; omega)]
    have Hro := Lib.hid hro
    have Hcm := Lib.hid (show cellLen ((w9.setCell ⟨g, v, none⟩ (.slice (some ⟨g9, 0, none⟩) (xs.length + 1) cc9)).cell? ⟨g, v, none⟩) = xs.length + 1 from by
     obtain ⟨u9, T9, hu9, -, hR9, -, -, -⟩ := Hb9.out.mb.own.rowCell hro
     obtain ⟨A9, c9', rfl, -, -, -⟩ := id hR9.read
     rw [hu9]
     simp [cellLen])
    clear hz1 hz2 hz3 hro Hz9
    go_wp2
    go_roundw
    case rel => exact ⟨_, S5, _, Hb9.out.up (by simp; omega), by show (List.set _ _ _).length = _; rw [List.length_set]; exact HNl.out, Hro.out, HNb.out.setRow v (by simp; omega), by simp; omega⟩
    case measure => rw [Hcm.out]; have h7 := Hu0.out; simp only [h7, cellLen]; omega
   ·have e0 : ((xs.length : Int) < 6 + (b : Int)) = False := by simp; omega
    go_upto_region 29 with (fail)
    clear e0
    obtain ⟨k0, k1, k2, -, -, -⟩ := (Hb7.out).mb.box.cells
    obtain ⟨e0, e1', e2, f0, f1, f2⟩ := (Hb7.out).rb.box.cells
    have Hret := Lib.hid (Hb7.out).ret
    go_wp2
    refine bodyPost_ret (v := .agg #[.slice (some ⟨g, 0, none⟩) n.ends.length e1, .slice EI n.ids.length eI, .slice (some ⟨gN, 0, none⟩) n.inputs.length eN]) (by simp [results, Tryz.results129, go_sem, *]) rfl ?_
    obtain ⟨r1, r2, r3⟩ := Hret.out
    exact ⟨_, _, _, _, _, rfl, r1, HNb.out, r2.mono (by omega), r3⟩
 ·obtain ⟨k0, k1, k2, -, -, -⟩ := Hb4.out.mb.box.cells
  go_wp2_with fail
  refine (withIds_p cb A L c (P + 4) R M _ _ _ n w4 Hb4.out.mb.cur (by omega) Hb4.out.mb.own.read Hg.out hR hM2).mono ?_
  rintro e w5 ⟨ve5, vi5, vn5, N5, S5, rfl, ho5, ⟨hq1, hq2, hq3⟩, hcu5, hC5⟩
  obtain ⟨D0, d0, rfl, -, -, -⟩ := id ho5.read.1
  obtain ⟨D1, d1, rfl, -, -, -⟩ := id ho5.read.2.1
  obtain ⟨D2, d2, rfl, -, -, -⟩ := id ho5.read.2.2
  have hb6 := Hb4.out.assign hC5 hcu5 ho5
  have hbx := Hb4.out.seen hC5 hcu5
  have h0i : 0 < N5.ids.length := by omega
  have hown := hb6.mb.ownIds.1.1
  obtain ⟨gI, rfl⟩ : ∃ gI, D1 = some ⟨gI, 0, none⟩ := by
   rcases hown.cases with ⟨h1, h2⟩ | ⟨gq, cq, h1, -, -⟩
   ·rw [h2] at h0i; simp at h0i
   ·cases h1; exact ⟨gq, rfl⟩
  clear k0 k1 k2
  obtain ⟨k0, k1, k2, f0, f1, f2⟩ := hbx.mb.box.cells
  have Hb6' := Lib.hid hb6
  have Hq := Lib.hid (And.intro hq1 (And.intro hq2 hq3))
  clear hb6 hbx ho5 hcu5 hC5 hown hq1 hq2 hq3
  go_upto_region 19 with (fail)
  obtain ⟨w6, hw6⟩ : ∃ z, z = ((w5.setCell ⟨pb, 0, none⟩ (.slice D0 N5.ends.length d0)).setCell ⟨pb, 1, none⟩ (.slice (some ⟨gI, 0, none⟩) N5.ids.length d1)).setCell ⟨pb, 2, none⟩ (.slice D2 N5.inputs.length d2) := ⟨_, rfl⟩
  rw [← hw6]
  have Hb6 : Hid (Br cb pb A L c (P + 4 + 1000) w w6 (.slice D0 N5.ends.length d0) (.slice (some ⟨gI, 0, none⟩) N5.ids.length d1) (.slice D2 N5.inputs.length d2) N5 S5) := by show Br _ _ _ _ _ _ _ _ _ _ _ _ _; rw [hw6]; exact Hb6'.out
  clear hw6 Hb6' k0 k1 k2 f0 f1 f2
  obtain ⟨z0, hz0⟩ := getx N5.ids 0 h0i
  have hvid : v < N5.ids.length := by have := Hq.out.2.2; omega
  have hci := Hb6.out.mb.ownIds.1.1.cell hz0
  have hgi : gI ≠ cb := fun e => by
   have h1 := (World.ownsRow.lt Hb6.out.mb.ownIds.1.1 gI (by simp [Value.ownBlock])).1
   have h2 := Hpb.out
   omega
  go_upto_region 19 with (fail)
  refine wp_region_chainS (fun W => W.cell? ⟨pb, 1, none⟩ = some (.slice (some ⟨gI, 0, none⟩) N5.ids.length d1) ∧ W.cell? ⟨gI, 0, none⟩ = some (.int .i64 z0)) 10 [false, false, false, false, false, false, false, false, true, true] (by kernel_rfl) (by kernel_rfl) (show (World.drew w6).cell? ⟨pb, 1, none⟩ = some (.slice (some ⟨gI, 0, none⟩) N5.ids.length d1) ∧ (World.drew w6).cell? ⟨gI, 0, none⟩ = some (.int .i64 z0) from ⟨Hb6.out.mb.box.cells.2.1, hci⟩) ?_
  simp only [selF, selT, List.take_succ_cons, List.take_zero, List.drop_succ_cons, List.drop_zero]
  refine pflowS_val (v := ?_) rfl ?_ ?_; rotate_left; (intro W hW; (obtain ⟨k0, k1⟩ := hW); go_simp; with_reducible rfl)
  simp only [zA]
  refine pflowS_val (v := ?_) rfl ?_ ?_; rotate_left; (intro W hW; (obtain ⟨k0, k1⟩ := hW); go_simp; with_reducible rfl)
  simp only [zA]
  refine pflowS_val (v := ?_) rfl ?_ ?_; rotate_left; (intro W hW; (obtain ⟨k0, k1⟩ := hW); go_simp; with_reducible rfl)
  simp only [zA]
  refine pflowS_val (v := ?_) rfl ?_ ?_; rotate_left; (intro W hW; (obtain ⟨k0, k1⟩ := hW); go_simp; with_reducible rfl)
  simp only [zA]
  refine pflowS_val (v := ?_) rfl ?_ ?_; rotate_left; (intro W hW; (obtain ⟨k0, k1⟩ := hW); go_simp; with_reducible rfl)
  simp only [zA]
  refine pflowS_val (v := ?_) rfl ?_ ?_; rotate_left; (intro W hW; (obtain ⟨k0, k1⟩ := hW); go_simp; with_reducible rfl)
  simp only [zA]
  refine pflowS_val (v := ?_) rfl ?_ ?_; rotate_left; (intro W hW; (obtain ⟨k0, k1⟩ := hW); go_simp; with_reducible rfl)
  simp only [zA]
  refine pflowS_val (v := ?_) rfl ?_ ?_; rotate_left; (intro W hW; (obtain ⟨k0, k1⟩ := hW); go_simp; with_reducible rfl)
  simp only [zA]
  obtain ⟨W, hWd⟩ : ∃ W, W = World.drew w6 := ⟨_, rfl⟩
  rw [← hWd]
  have hW := (show (World.drew w6).cell? ⟨pb, 1, none⟩ = some (.slice (some ⟨gI, 0, none⟩) N5.ids.length d1) ∧ (World.drew w6).cell? ⟨gI, 0, none⟩ = some (.int .i64 z0) from ⟨Hb6.out.mb.box.cells.2.1, hci⟩)
  rw [← hWd] at hW
  have HWd := Lib.hid hWd
  clear hWd
  refine tflow_allocS (v := ?_) (ob := ?_) rfl ?_ ?_ ?_; rotate_left 2
  (go_simp; first | with_reducible rfl | (refine ⟨?_, ?_⟩ <;> with_reducible rfl))
  exact ⟨bc (below_alloc _ _) hW.1, bc (below_alloc _ _) hW.2⟩
  intro w7 hw7d hw7s
  replace hW := hw7s
  clear hw7s
  have hs7 : Since w6 w7 := (by rw [hw7d, HWd.out]; exact since_alloc _ (since_drew (since_refl _)))
  have Hb7 := Lib.hid ((Hb6.out).since hs7)
  have Ho7 : Hid (Own w7 w6.heap.size (.slice (some ⟨w6.heap.size, 0, none⟩) 5 5) [0, 1, 999999, 1000000, z0]) := (by show Own _ _ _ _; rw [hw7d, HWd.out]; exact lit_int [0, 1, 999999, 1000000, z0] rfl rfl (by simp) (Nat.le_refl _))
  have hcw : cb < w6.heap.size := (Hb6.out).mb.cur.lt
  rw [show W.heap.size = w6.heap.size from by rw [HWd.out]; rfl]
  clear hw7d hs7
  (try simp only [zA])
  refine Or.inl ⟨rfl, ?_⟩
  go_simp
  (with_reducible refine (among_q cb A L c (P + 4 + 1000) w6.heap.size w6.heap.size 5 5 [0, 1, 999999, 1000000, z0] _ rfl Hb7.out.mb.cur (by omega) Ho7.out hcw (by simp) (by simp)).mono ?_)
  rintro e W' ⟨a, rfl, ha, hcu, hC⟩
  refine ⟨_, rfl, And.intro (seen_cell hW.1 hpc _ hC) (seen_cell hW.2 hgi _ hC), ?_⟩
  replace hW := And.intro (seen_cell hW.1 hpc _ hC) (seen_cell hW.2 hgi _ hC)
  have Hb8 := Lib.hid (Hb7.out.seen hC hcu)
  clear hcu hC ha
  (try simp only [zA])
  simp only [TFlow]
  obtain ⟨f9, ⟨z9, c9⟩, S9, hb9⟩ := Hb8.out.setId (k := v) a (by have := Hq.out.2.2; omega)
  have Hb9 := Lib.hid hb9
  clear hb9
  go_upto_region 29 with (fail)
  obtain ⟨w9, hw9⟩ : ∃ z, z = W'.setCell ⟨gI, v, none⟩ (.int .i64 a) := ⟨_, rfl⟩
  rw [← hw9]
  rw [← hw9] at Hb9
  clear hw9 hW c9 f9
  obtain ⟨k0, k1, k2, -, -, -⟩ := (Hb9.out).mb.box.cells
  obtain ⟨e0, e1', e2, f0, f1, f2⟩ := (Hb9.out).rb.box.cells
  have Hret := Lib.hid (Hb9.out).ret
  go_wp2
  refine bodyPost_ret (v := .agg #[.slice D0 N5.ends.length d0, .slice (some ⟨gI, 0, none⟩) N5.ids.length d1, .slice D2 N5.inputs.length d2]) (by simp [results, Tryz.results129, go_sem, *]) rfl ?_
  obtain ⟨r1, r2, r3⟩ := Hret.out
  exact ⟨_, _, _, _, _, rfl, r1, ⟨by show N5.ends.length ≤ _; rw [Hq.out.1]; exact HBd.out.ends, fun k es he => HBd.out.row k es (by rw [← Hq.out.1]; exact he), by show (List.set _ _ _).length ≤ _; rw [List.length_set]; have := Hq.out.2.2; omega, by show N5.inputs.length ≤ _; rw [Hq.out.2.1]; exact HBd.out.inputs⟩, r2.mono (by omega), r3⟩
 ·obtain ⟨hb5, S5, hb7⟩ := Hb4.out.putIds (W' := w4.alloc (.cells #[.int .i64 5] 3)) (v' := .slice (some ⟨w4.heap.size, 0, none⟩) 1 1) (ids' := [5]) ⟨lit_int [5] rfl rfl (by simp) Hb4.out.sz, rfl⟩ ((Only.refl _ _).alloc _) (fun j hj => .inr (by simp [Value.ownBlock] at hj; omega))
  obtain ⟨k0, k1, k2, f0, f1, f2⟩ := hb5.cells
  have Hb7 := Lib.hid hb7
  clear hb5 hb7
  go_upto_region 29 with (fail)
  obtain ⟨w7, hw7⟩ : ∃ z, z = (w4.alloc (.cells #[.int .i64 5] 3)).setCell ⟨pb, 1, none⟩ (.slice (some ⟨w4.heap.size, 0, none⟩) 1 1) := ⟨_, rfl⟩
  rw [← hw7]
  rw [← hw7] at Hb7
  clear hw7 k0 k1 k2 f0 f1 f2
  obtain ⟨k0, k1, k2, -, -, -⟩ := (Hb7.out).mb.box.cells
  obtain ⟨e0, e1', e2, f0, f1, f2⟩ := (Hb7.out).rb.box.cells
  have Hret := Lib.hid (Hb7.out).ret
  go_wp2
  refine bodyPost_ret (v := .agg #[.slice (some ⟨g, 0, none⟩) n.ends.length e1, .slice (some ⟨w4.heap.size, 0, none⟩) 1 1, .slice (some ⟨gN, 0, none⟩) n.inputs.length eN]) (by simp [results, Tryz.results129, go_sem, *]) rfl ?_
  obtain ⟨r1, r2, r3⟩ := Hret.out
  exact ⟨_, _, _, _, _, rfl, r1, ⟨HBd.out.ends, HBd.out.row, by simp, HBd.out.inputs⟩, r2.mono (by omega), r3⟩
 ·go_upto_region 23 with (fail)
  go_loopw [131] (fun _ wr => ∃ (ve vn : Value) (N : Net) (S : List Nat), Br cb pb A L c (P + 4 + 2 * N.ends.length) w wr ve (.slice EI n.ids.length eI) vn N S ∧ N.ends.length ≤ 41 ∧ N.inputs.length = N.ends.length ∧ N.ids = n.ids ∧ Bd N) (fun _ wr => 42 - cellLen (wr.cell? ⟨pb, 0, none⟩))
  case atStart => exact ⟨_, _, n, _, Hb4.out.up (by omega), by omega, Hin.out, rfl, HBd.out⟩
  case round =>
   obtain ⟨ve, vn, N, S, hb, hNl, hNi, hid, hNb⟩ := hrel
   obtain ⟨wo, rfl⟩ : ∃ z, z = wr := ⟨_, rfl⟩
   obtain ⟨Q0, q0, rfl, -, -, -⟩ := id hb.mb.own.read.1
   obtain ⟨Q2, q2, rfl, -, -, -⟩ := id hb.mb.own.read.2.2
   have Hb0' := Lib.hid hb
   have HNb := Lib.hid hNb
   have Hid' := Lib.hid hid
   have HNi := Lib.hid hNi
   clear hb hNb hid hNi
   go_upto_region 23 with (fail)
   refine wp_region_chainS (fun W => W.cell? ⟨pb, 0, none⟩ = some (.slice Q0 N.ends.length q0)) 7 [false, false, false, false, true, true, true] (by kernel_rfl) (by kernel_rfl) (show (World.drew wo).cell? ⟨pb, 0, none⟩ = some (.slice Q0 N.ends.length q0) from Hb0'.out.mb.box.cells.1) ?_
   simp only [selF, selT, List.take_succ_cons, List.take_zero, List.drop_succ_cons, List.drop_zero]
   refine pflowS_val (v := ?_) rfl ?_ ?_; rotate_left; (intro W hW; (have k0 := hW); go_simp; with_reducible rfl)
   simp only [zA]
   refine pflowS_val (v := ?_) rfl ?_ ?_; rotate_left; (intro W hW; (have k0 := hW); go_simp; with_reducible rfl)
   simp only [zA]
   refine pflowS_val (v := ?_) rfl ?_ ?_; rotate_left; (intro W hW; (have k0 := hW); go_simp; with_reducible rfl)
   simp only [zA]
   refine pflowS_val (v := ?_) rfl ?_ ?_; rotate_left; (intro W hW; (have k0 := hW); go_simp; with_reducible rfl)
   simp only [zA]
   obtain ⟨W, hWd⟩ : ∃ W, W = World.drew wo := ⟨_, rfl⟩
   rw [← hWd]
   have hW := (show (World.drew wo).cell? ⟨pb, 0, none⟩ = some (.slice Q0 N.ends.length q0) from Hb0'.out.mb.box.cells.1)
   rw [← hWd] at hW
   have HWd := Lib.hid hWd
   clear hWd
   refine Or.inl ⟨rfl, ?_⟩
   go_simp
   (with_reducible refine (pick_p cb A L c (P + 4 + 2 * N.ends.length) 2 W (by rw [HWd.out]; exact Hb0'.out.mb.cur.since (since_drew (since_refl _))) (by omega) (by omega)).mono ?_)
   rintro e W' ⟨b, rfl, hb, hcu, hC⟩
   refine ⟨_, rfl, seen_cell hW hpc _ hC, ?_⟩
   replace hW := seen_cell hW hpc _ hC
   have hS1 : Since wo W := (by rw [HWd.out]; exact since_drew (since_refl _))
   have Hb7 := Lib.hid (Hb0'.out.seen (((Seen.refl cb wo).after hS1).trans hC) hcu)
   have hb2 : b < 2 := (by omega)
   have m1 : IntKind.i64.wrap (40 + (b : Int)) = 40 + (b : Int) := wr64 _ (by omega) (by omega)
   clear hC hcu hS1 hb
   (try simp only [zA])
   refine tflow_val (v := ?_) rfl ?_ hW ?_; rotate_left; (go_simp; with_reducible rfl)
   simp only [zA]
   refine tflow_val (v := ?_) rfl ?_ hW ?_; rotate_left; (go_simp; with_reducible rfl)
   simp only [zA]
   simp only [TFlow]
   obtain ⟨w7, rfl⟩ : ∃ z, z = W' := ⟨_, rfl⟩
   clear hW
   by_cases hlt : N.ends.length < 40 + b
   ·have e0 : ((N.ends.length : Int) < 40 + (b : Int)) = True := by simp; omega
    have hsA : Since w7 (w7.alloc (.cells #[.slice none 0 0] 81)) := since_alloc _ (since_refl _)
    have Hb8 := Lib.hid (Hb7.out.since hsA)
    obtain ⟨k0, k1, k2, f0, f1, f2⟩ := Hb7.out.mb.box.cells
    have Hl8 : Hid (N.ends.length + 1 ≤ 1000000) := by show _ ≤ _; omega
    have Hvq : Hid (∀ q, (Value.slice Q0 N.ends.length q0).ownBlock = some q → (trunc w7 w.heap.size).heap.size ≤ q) := fun q hq => by
     obtain ⟨S1, S2, S3, ⟨vs, Ss, h1, -⟩, -, -, -, -⟩ := id Hb8.out.mb.own
     have h9 := (World.ownsRow.lt h1 q hq).1
     simp [trunc]
     omega
    have Hwq : Hid (Since (trunc w7 w.heap.size) (w7.alloc (.cells #[.slice none 0 0] 81))) := Since.after (trunc_since w7 Hb7.out.sz) hsA
    clear hsA
    go_upto_region 25 with (at_builtin; refine app_rowN (wT := trunc w7 w.heap.size) (base := w.heap.size) (v := .slice Q0 N.ends.length q0) (u := .slice none 0 0) (T := []) (es := []) rfl _ _ rfl rfl Hb8.out.mb.own w7.heap.size rfl (by simp) (ownE_nil _ _) (fun j hj => by simp at hj) Hl8.out Hwq.out Hb8.out.sz Hvq.out ?_; intro v8 w8 S8 hv8 hn8 hS8 hon8 hs8; obtain ⟨A8, c8, hq8, -, -, -⟩ := id hn8.read.1; have hq9 : v8 = .slice A8 (N.ends.length + 1) c8 := (by rw [hq8]; simp); clear hq8; subst hq9; obtain ⟨hb8, hb9⟩ := Hb8.out.put0 hn8 (fun j hj => by rcases hS8 j hj with h | h | h; exact .inl h; simp at h; right; omega) hon8; clear k0 k1 k2 f0 f1 f2 hv8 hS8 hon8 hs8; obtain ⟨k0, k1, k2, f0, f1, f2⟩ := hb8.cells; have Hb9 := Lib.hid hb9; clear hb8 hb9 hn8)
    obtain ⟨w9, hw9⟩ : ∃ z, z = w8.setCell ⟨pb, 0, none⟩ (.slice A8 (N.ends.length + 1) c8) := ⟨_, rfl⟩
    rw [← hw9]
    rw [← hw9] at Hb9
    clear hw9 k0 k1 k2 f0 f1 f2
    have hsA : Since w9 (w9.alloc (.cells #[.int .i64 0] 3)) := since_alloc _ (since_refl _)
    have Hb10 := Lib.hid (Hb9.out.since hsA)
    have Hl10 : Hid (N.inputs.length + [(0 : Int)].length ≤ 17592186044416) := by show _ ≤ _; have := HNb.out.inputs; simp; omega
    clear hsA
    obtain ⟨k0, k1, k2, f0, f1, f2⟩ := Hb9.out.mb.box.cells
    go_wp2_with (at_builtin; refine app_intsA (base := w.heap.size) rfl _ _ rfl rfl Hb10.out.mb.ownIn.1.1 rfl (one_int _ _) Hl10.out Hb10.out.sz ?_; intro v' w11 T ho6 hon6 hT6; obtain ⟨V, mV, cV, rfl⟩ := lawI.one ho6; obtain ⟨hb6, S6, hb7⟩ := Hb10.out.putIn ho6 hon6 hT6; clear k0 k1 k2 f0 f1 f2 ho6 hon6 hT6; obtain ⟨k0, k1, k2, f0, f1, f2⟩ := hb6.cells; have Hb11 := Lib.hid hb7; clear hb6 hb7)
    go_roundw
    case rel => exact ⟨_, _, _, S6, Hb11.out.up (by simp; omega), by simp; omega, by have := HNi.out; simp; omega, Hid'.out, HNb.out.more (by omega) (by have := HNi.out; omega)⟩
    case measure => rw [Hb11.out.mb.box.cells.1, Hb0'.out.mb.box.cells.1]; simp [cellLen]; omega
   ·have e0 : ((N.ends.length : Int) < 40 + (b : Int)) = False := by simp; omega
    have k0 := Hb7.out.mb.box.cells.1
    obtain ⟨hb8, S8, hb9⟩ := Hb7.out.putIds (v' := .slice none 0 0) (ids' := []) (ownI_nil _ _) (Only.refl _ _) (fun j hj => by simp at hj)
    clear k0
    obtain ⟨k0, k1, k2, f0, f1, f2⟩ := hb8.cells
    have Hb9 := Lib.hid hb9
    clear hb8 hb9
    go_upto_region 29 with (fail)
    obtain ⟨w9, hw9⟩ : ∃ z, z = w7.setCell ⟨pb, 1, none⟩ (.slice none 0 0) := ⟨_, rfl⟩
    rw [← hw9]
    rw [← hw9] at Hb9
    clear hw9 e0 k0 k1 k2 f0 f1 f2
    obtain ⟨k0, k1, k2, -, -, -⟩ := (Hb9.out).mb.box.cells
    obtain ⟨e0, e1', e2, f0, f1, f2⟩ := (Hb9.out).rb.box.cells
    have Hret := Lib.hid (Hb9.out).ret
    go_wp2
    refine bodyPost_ret (v := .agg #[.slice Q0 N.ends.length q0, .slice none 0 0, .slice Q2 N.inputs.length q2]) (by simp [results, Tryz.results129, go_sem, *]) rfl ?_
    obtain ⟨r1, r2, r3⟩ := Hret.out
    exact ⟨_, _, _, _, _, rfl, r1, ⟨HNb.out.ends, HNb.out.row, by simp, HNb.out.inputs⟩, r2.mono (by omega), r3⟩
 ·obtain ⟨e0, e1', e2, f0, f1, f2⟩ := Hb4.out.rb.box.cells
  go_wp2
  refine bodyPost_ret (v := .agg #[.slice none 0 0, .slice none 0 0, .slice none 0 0]) (by simp [results, Tryz.results129, go_sem, *]) rfl ?_
  have hpp := Hpb.out
  refine ⟨_, _, _, ⟨[], [], []⟩, [], rfl, ownNet_nil _ _, ⟨by simp, fun k es he => by simp at he, by simp, by simp⟩, (Hb4.out.mb.cur.keep (fun k hk => set3_blk w4 (pb + 1) _ _ _ (by omega))).mono (by omega), ?_⟩
  exact ((Hb4.out.mb.far.setCell (p := ⟨pb + 1, 0, none⟩) (.inl (by show _ ≤ pb + 1; omega)) _).setCell (p := ⟨pb + 1, 1, none⟩) (.inl (by show _ ≤ pb + 1; omega)) _).setCell (p := ⟨pb + 1, 2, none⟩) (.inl (by show _ ≤ pb + 1; omega)) _
 ·have t0 : ((x : Int) == 0) = false := by simp; omega
  have t1 : ((x : Int) == 1) = false := by simp; omega
  have t2 : ((x : Int) == 2) = false := by simp; omega
  have t3 : ((x : Int) == 3) = false := by simp; omega
  have t4 : ((x : Int) == 4) = false := by simp; omega
  have t5 : ((x : Int) == 5) = false := by simp; omega
  have t6 : ((x : Int) == 6) = false := by simp; omega
  have t7 : ((x : Int) == 7) = false := by simp; omega
  have t8 : ((x : Int) == 8) = false := by simp; omega
  go_upto_region 29 with (fail)
  clear t0 t1 t2 t3 t4 t5 t6 t7 t8
  obtain ⟨k0, k1, k2, -, -, -⟩ := (Hb4.out).mb.box.cells
  obtain ⟨e0, e1', e2, f0, f1, f2⟩ := (Hb4.out).rb.box.cells
  have Hret := Lib.hid (Hb4.out).ret
  go_wp2
  refine bodyPost_ret (v := .agg #[.slice (some ⟨g, 0, none⟩) n.ends.length e1, .slice EI n.ids.length eI, .slice (some ⟨gN, 0, none⟩) n.inputs.length eN]) (by simp [results, Tryz.results129, go_sem, *]) rfl ?_
  obtain ⟨r1, r2, r3⟩ := Hret.out
  exact ⟨_, _, _, _, _, rfl, r1, HBd.out, r2.mono (by omega), r3⟩
end Go.Proofs.YtgmdpppljkmabaaGreat
