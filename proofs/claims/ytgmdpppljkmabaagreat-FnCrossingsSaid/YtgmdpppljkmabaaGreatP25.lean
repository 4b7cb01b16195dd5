/- Parts of the proof: walks of functions and plain laws. -/
import Derived.Test.YtgmdpppljkmabaaGreatP0
import Derived.Test.YtgmdpppljkmabaaGreatP23
import Derived.Test.YtgmdpppljkmabaaGreatP24
import Derived.Test.YtgmdpppljkmabaaGreatP16
namespace Go.Proofs.YtgmdpppljkmabaaGreat
open Go Go.RowKit
/-! lift: two sheets over a drawn network -/
def NewNL (cb B : Nat) (A : Option Addr) (L c P : Nat) (w : World) (T : Net → Prop) (e : Ending) (w' : World) : Prop :=
 ∃ ve vi vn um N S ls, e = .returned (.tuple #[.agg #[ve, vi, vn], um]) ∧ OwnNet w' B ve vi vn N S ∧ T N ∧ Own w' B um ls ∧ (ls.length ≤ 200 ∧ ∀ x ∈ ls, 0 ≤ x ∧ x ≤ 1000) ∧ CurP w' cb A L c P ∧ CB cb B w w'
theorem perm_two (cb : Nat) (A : Option Addr) (L c P : Nat) (w : World) (h : CurP w cb A L c P) (hP : P ≤ 4611686018427000000) :
  Calls Tryz.prog 138 #[.pointer (some ⟨cb, 0, none⟩), .int .i64 2] w fun e w' => ∃ g xs, e = .returned (.slice (some ⟨g, 0, none⟩) 2 2) ∧ Own w' w.heap.size (.slice (some ⟨g, 0, none⟩) 2 2) xs ∧ Below0 2 xs ∧ CurP w' cb A L c (P + 200) ∧ CB cb w.heap.size w w' := perm_p cb A L c P 2 w h hP (by omega)
theorem Seen.trans' {cb : Nat} {w0 W W' : World} (h : Seen cb w0 W) (h' : Below w0.heap.size W W') : Seen cb w0 W' := CB.trans h (CB.of h')
set_option maxRecDepth 100000 in
set_option maxHeartbeats 8000000 in
theorem lift_p (cb : Nat) (Ac : Option Addr) (L cq P Bn : Nat) (ve vi vn : Value) (n : Net) (Sn : List Nat) (w : World) (hc : CurP w cb Ac L cq P) (hP : P ≤ 4400000000000000000) (hown : OwnNet w Bn ve vi vn n Sn) (hcB : cb < Bn) (hg : Gd 100 40 n) (hn0 : 0 < n.ends.length) :
  Calls Tryz.prog 128 #[.pointer (some ⟨cb, 0, none⟩), .agg #[ve, vi, vn], .int .i64 2] w (NewNL cb w.heap.size Ac L cq (P + 1000000) w Bd) := by
 have h := hown.read
 have Hown := Lib.hid hown
 have hcb := hc.lt
 have hn40 := hg.ends
 have Hg := Lib.hid hg
 have Hcw := Lib.hid hc
 clear hg hc hown
 obtain ⟨w0, hw0⟩ : ∃ w0, w0 = (w).alloc (.cells #[ve, vi, vn] 27) := ⟨_, rfl⟩
 have hb0 : Below w.heap.size w w0 := by rw [hw0]; exact ((Below.refl _ _).alloc (by simp) _)
 have H := Lib.hid (h.keep hb0)
 obtain ⟨h1, h2, h3⟩ := h.keep hb0
 obtain ⟨A, c, rfl, hlc, hm, hA⟩ := h1
 obtain ⟨A2, c2, rfl, _, hm2, _⟩ := h2
 obtain ⟨A3, c3, rfl, _, hm3, _⟩ := h3
 unfold maxLen at hm hm2 hm3
 have p00 : ∀ W, Since w0 W → W.cell? ⟨w.heap.size, 0, none⟩ = some (.slice A n.ends.length c) := have_cell (by rw [hw0]; simp)
 have p01 : ∀ W, Since w0 W → W.cell? ⟨w.heap.size, 1, none⟩ = some (.slice A2 n.ids.length c2) := have_cell (by rw [hw0]; simp)
 have p02 : ∀ W, Since w0 W → W.cell? ⟨w.heap.size, 2, none⟩ = some (.slice A3 n.inputs.length c3) := have_cell (by rw [hw0]; simp)
 have Hb0 := Lib.hid hb0
 have Hw0 := Lib.hid hw0
 have HA := Lib.hid hA
 clear hA h
 clear hb0 hw0
 obtain ⟨wa, hwa⟩ : ∃ wa, wa = w0.alloc (.cells #[.slice none 0 0, .slice none 0 0, .slice none 0 0] 27) := ⟨_, rfl⟩
 have hsa : Since w0 wa := by rw [hwa]; exact since_alloc _ (since_refl _)
 have h01 : w0.heap.size = w.heap.size + 1 := by rw [Hw0.out]; simp
 have Hza : Hid (wa.heap.size = w.heap.size + 1 + 1) := by show _ = _; rw [hwa, ← h01]; simp
 have HRb : Hid (BoxN wa (w.heap.size + 1) (.slice none 0 0) (.slice none 0 0) (.slice none 0 0)) := by
  show BoxN _ _ _ _ _
  rw [hwa, ← h01]
  show (w0.heap.push _)[w0.heap.size]? = _
  rw [Array.getElem?_push_size]
 have Hca : Hid (CurP wa cb Ac L cq P) := by
  show CurP _ _ _ _ _ _
  refine Hcw.out.keep (fun k hk => ?_)
  exact (hsa.below.block k (by omega)).trans (Hb0.out.block k (by omega))
 have q00 := lift_cell p00 hsa
 have q01 := lift_cell p01 hsa
 have q02 := lift_cell p02 hsa
 have Hwa := Lib.hid hwa
 have Hsa := Lib.hid hsa
 clear hwa hsa h01 p00 p01 p02
 go_enter Tryz.func128, Tryz.ntmps128
 go_upto_region 1 with (fail)
 rw [← Hw0.out, ← Hwa.out]
 have hs : Since wa wa := since_refl _
 go_wp2_with fail
 refine (neEdges_g _ _ _ n wa (H.out.keep Hsa.out.below) (Hg.out.mono (Nat.le_refl _) (by omega))).mono ?_
 rintro e w3 ⟨uL, rfl, hoL, hb3⟩
 have hs3 : Since wa w3 := hb3
 have hLl := edgesTo_leng (Hg.out.mono (Nat.le_refl _) (show 40 ≤ 100 by omega)) n.ends.length
 obtain ⟨LL, hLL⟩ : ∃ LL, LL = edgesB n := ⟨_, rfl⟩
 have hLl2 : LL.length ≤ 4000 := by rw [hLL]; unfold edgesB; omega
 have HLL := Lib.hid hLL
 rw [← hLL] at hoL
 obtain ⟨⟨AL, cL, hval, hlL, hmL⟩, hat⟩ := hoL.at
 subst hval
 have Hc3 := Lib.hid (Hca.out.since hs3)
 have Hs3 := Lib.hid hs3
 have Hat := Lib.hid hat
 have HoL := Lib.hid hoL
 have Hq3 := Lib.hid (And.intro (q00 w3 hs3) (And.intro (q01 w3 hs3) (q02 w3 hs3)))
 unfold maxLen at hmL
 clear hs hs3 hat hoL hb3 hLl hLL q00 q01 q02
 go_upto_region 3 with (fail)
 go_loopw [8, 21] (fun u i wr => ∃ (x : Nat) (ps : List (List Int)) (S : List Nat), x ≤ LL.length ∧ i = .int .i64 x ∧ OwnII wr w3.heap.size u ps S ∧ ps.length = x ∧ (∀ p ∈ ps, p.length = 2 ∧ Below0 2 p) ∧ CurP wr cb Ac L cq (P + 210 * x) ∧ Seen cb w3 wr) (fun _ i _ => LL.length - (intOf i).toNat)
 case atStart => exact ⟨0, [], [], Nat.zero_le _, rfl, ⟨[], [], World.ownsRow_nil w3 _ _ _, rfl, fun k u x T h => by simp at h, by simp [Value.ownBlock], by simp⟩, rfl, fun p hp => by simp at hp, Hc3.out.mono (by omega), Seen.refl _ _⟩
 case round =>
  obtain ⟨x, ps, S, hx, rfl, hops, hpl, hpp, hcu, hseen⟩ := hrel
  obtain ⟨wo, rfl⟩ : ∃ z, z = wr := ⟨_, rfl⟩
  obtain ⟨AQ, cQ, rfl, hlq, hmq, -⟩ := id hops.read
  have Hops := Lib.hid hops
  have Hpl := Lib.hid hpl
  have Hpp := Lib.hid hpp
  have Hcu := Lib.hid hcu
  have Hseen := Lib.hid hseen
  clear hops hpl hpp hcu hseen
  by_cases hlt : x < LL.length
  ·have m3 : IntKind.i64.wrap ((x : Int) + 1) = (x : Int) + 1 := wr64 _ (by omega) (by omega)
   obtain ⟨e, he⟩ := getx LL x hlt
   obtain ⟨a, i, b, j, fa, fb, hee, -, -, -, -⟩ := edge_in Hg.out (show e ∈ edgesB n by rw [← HLL.out]; exact List.mem_of_getElem? he)
   subst hee
   obtain ⟨gL, cL', bR, hu, k0, hbR, k1, k2, k3, k4⟩ := Hat.out x _ he
   cases hu
   have hgL : wa.heap.size ≤ gL := HoL.out.blk
   have hza := Hza.out
   unfold rowV at k0
   have c0 := seen_cell (cb := cb) k0 (by show gL ≠ cb; omega) wo Hseen.out
   have K1 := seen_cell (cb := cb) k1 (by show bR ≠ cb; omega)
   have K2 := seen_cell (cb := cb) k2 (by show bR ≠ cb; omega)
   have K3 := seen_cell (cb := cb) k3 (by show bR ≠ cb; omega)
   have K4 := seen_cell (cb := cb) k4 (by show bR ≠ cb; omega)
   clear k0 hbR k1 k2 k3 k4 hgL he hza
   go_wp2_with fail
   refine (perm_two cb Ac L cq (P + 210 * x) wo Hcu.out (by omega)).mono ?_
   rintro e w4 ⟨gp, xs, rfl, hop, hpb, hcu4, hC4⟩
   have Hseen4 := Lib.hid (Hseen.out.trans hC4)
   have Hops4 := Lib.hid ((rows_law _ lawI).seen Hops.out hC4 (by have := Hseen.out.size; have := Hs3.out.below.size; have := Hza.out; omega))
   have Hop := Lib.hid hop
   have Hpb := Lib.hid hpb
   have Hcu4 := Lib.hid hcu4
   have J1 := fun W (hW : Since w4 W) => K1 W (Hseen4.out.after hW)
   have J2 := fun W (hW : Since w4 W) => K2 W (Hseen4.out.after hW)
   have J3 := fun W (hW : Since w4 W) => K3 W (Hseen4.out.after hW)
   have J4 := fun W (hW : Since w4 W) => K4 W (Hseen4.out.after hW)
   clear c0 K1 K2 K3 K4 hop hpb hcu4 hC4
   go_upto_region 6 with (fail)
   refine wp_region_flow 16 (Since w4) (by kernel_rfl) (by kernel_rfl) (by simp) (since_drew (since_refl _)) ?_
   simp only [List.take_succ_cons, List.take_zero, List.drop_succ_cons, List.drop_zero]
   refine flow_val (v := ?_) rfl ?_ ?_; rotate_left; (intro W hW; go_simp; with_reducible rfl)
   simp only [zA]
   refine flow_val (v := ?_) rfl ?_ ?_; rotate_left; (intro W hW; go_simp; with_reducible rfl)
   simp only [zA]
   refine flow_val (v := ?_) rfl ?_ ?_; rotate_left; (intro W hW; have k1 := J1 W hW; go_simp; with_reducible rfl)
   simp only [zA]
   refine flow_val (v := ?_) rfl ?_ ?_; rotate_left; (intro W hW; go_simp; with_reducible rfl)
   simp only [zA]
   refine flow_val (v := ?_) rfl ?_ ?_; rotate_left; (intro W hW; go_simp; with_reducible rfl)
   simp only [zA]
   refine flow_val (v := ?_) rfl ?_ ?_; rotate_left; (intro W hW; have k1 := J3 W hW; go_simp; with_reducible rfl)
   simp only [zA]
   refine flow_val (v := ?_) rfl ?_ ?_; rotate_left; (intro W hW; go_simp; with_reducible rfl)
   simp only [zA]
   refine flow_val (v := ?_) rfl ?_ ?_; rotate_left; (intro W hW; go_simp; with_reducible rfl)
   simp only [zA]
   refine flow_gval (v := ?_) rfl rfl ?_ ?_; rotate_left; (intro hb; intro W hW; go_simp; with_reducible rfl)
   simp only [zA]
   refine flow_gval (v := ?_) rfl rfl ?_ ?_; rotate_left; (intro hb; intro W hW; go_simp; with_reducible rfl)
   simp only [zA]
   refine flow_gval (v := ?_) rfl rfl ?_ ?_; rotate_left; (intro hb; intro W hW; have k1 := J2 W hW; go_simp; with_reducible rfl)
   simp only [zA]
   refine flow_gval (v := ?_) rfl rfl ?_ ?_; rotate_left; (intro hb; intro W hW; go_simp; with_reducible rfl)
   simp only [zA]
   refine flow_gval (v := ?_) rfl rfl ?_ ?_; rotate_left; (intro hb; intro W hW; go_simp; with_reducible rfl)
   simp only [zA]
   refine flow_gval (v := ?_) rfl rfl ?_ ?_; rotate_left; (intro hb; intro W hW; have k1 := J4 W hW; go_simp; with_reducible rfl)
   simp only [zA]
   refine flow_gval (v := ?_) rfl rfl ?_ ?_; rotate_left; (intro hb; intro W hW; go_simp; with_reducible rfl)
   simp only [zA]
   first | refine flow_and rfl rfl ?_ | (refine flow_val (v := ?_) rfl ?_ ?_; rotate_left; (intro W hW; go_simp; with_reducible rfl))
   simp only [zA]
   intro W hW
   have hs4 : Since w4 W := hW
   cases hgd : ((a : Int) == (b : Int) && (i : Int) == (j : Int))
   ·have HopW := Lib.hid (Own.since Hop.out hs4)
    have HopsW := Lib.hid ((rows_law _ lawI).keep Hops4.out hs4.below)
    have HcuW := Lib.hid (Hcu4.out.since hs4)
    have HseenW := Lib.hid (Hseen4.out.after hs4)
    have Hgp : Hid (∀ q, (Value.slice (some ⟨gp, 0, none⟩) 2 2).ownBlock = some q → q ∉ S) := fun q hq hqs => by
     simp [Value.ownBlock] at hq
     subst hq
     have h1 := (World.ownsRow.lt Hop.out gp (by simp [Value.ownBlock])).1
     have h2 := ((rows_law _ lawI).range Hops.out gp hqs).2
     omega
    clear hs4 hW J1 J2 J3 J4
    have hsA : Since W (W.alloc (.cells #[.slice (some ⟨gp, 0, none⟩) 2 2] 25)) := since_alloc _ (since_refl _)
    have HopA := Lib.hid ((Own.since HopW.out hsA).mono (show w3.heap.size ≤ wo.heap.size from Hseen.out.size))
    have HopsA := Lib.hid ((rows_law _ lawI).keep HopsW.out hsA.below)
    have HlA : Hid (ps.length + 1 ≤ 4000000) := by show _ ≤ _; have := Hpl.out; omega
    have HbA : Hid (w3.heap.size ≤ (W.alloc (.cells #[.slice (some ⟨gp, 0, none⟩) 2 2] 25)).heap.size) := Nat.le_trans HseenW.out.size hsA.below.size
    have HcuA := Lib.hid (HcuW.out.since hsA)
    have HseenA := Lib.hid (HseenW.out.after hsA)
    clear hsA
    go_wp2_with (at_builtin; refine app_rowII (base := w3.heap.size) (v := .slice AQ ps.length cQ) (u := .slice (some ⟨gp, 0, none⟩) 2 2) (xs := xs) rfl _ _ rfl rfl HopsA.out W.heap.size rfl (by simp) HopA.out Hgp.out HlA.out HbA.out ?_; intro g9 c9 w9 S9 ho9 hb9; have Ho9 := Lib.hid ho9; have Hcu9 := Lib.hid (HcuA.out.keep (fun k hk => hb9.block k (by have := Hs3.out.below.size; have := Hza.out; omega))); have Hseen9 := Lib.hid (HseenA.out.trans' hb9); clear ho9 hb9)
    go_roundw
    case rel => exact ⟨x + 1, _, S9, by omega, by first | rfl | go_num, by have h7 := Ho9.out; have := Hpl.out; simpa using h7, by simp; exact Hpl.out, fun q hq => by
     rcases List.mem_append.1 hq with h7 | h7
     ·exact Hpp.out q h7
     ·have h8 : q = xs := by simpa using h7
      rw [h8]; exact ⟨Hop.out.len.symm ▸ rfl, Hpb.out⟩, Hcu9.out.mono (by omega), Hseen9.out⟩
    case measure => simp [intOf]; omega
   ·obtain ⟨gq, hgq⟩ : ∃ z, z = W.heap.size := ⟨_, rfl⟩
    have hgqS : ∀ q ∈ S, q < gq := fun q hq => by
     have h2 := ((rows_law _ lawI).range Hops4.out q hq).2
     have h3 := hs4.below.size
     omega
    have h3q : w3.heap.size ≤ gq := by have h1 := Hseen4.out.size; have h3 := hs4.below.size; omega
    have hcq : cb < gq := by have := Hs3.out.below.size; have := Hza.out; omega
    have HopW := Lib.hid (Own.since Hop.out hs4)
    have HopsW := Lib.hid ((rows_law _ lawI).keep Hops4.out hs4.below)
    have HcuW := Lib.hid (Hcu4.out.since hs4)
    have HseenW := Lib.hid (Hseen4.out.after hs4)
    have Hgs := Lib.hid hgqS
    have hgp : gp < gq := by rw [hgq]; exact (World.ownsRow.lt HopW.out gp (by simp [Value.ownBlock])).2
    have hxl : xs.length = 2 := Hop.out.len.symm ▸ rfl
    have Hxl := Lib.hid hxl
    clear hs4 hW J1 J2 J3 J4 hgqS hxl
    go_upto_region 8 with (at_make; refine mk_ints _ rfl _ _ rfl _ _ 2 rfl rfl rfl rfl (by omega) ?_; intro w5 ho5 hb5 hz5)
    rw [← hgq] at ho5 ⊢
    have HgqW := Lib.hid hgq
    have hC5 : CB cb gq W w5 := by rw [hgq]; exact CB.of hb5
    have Ho5 := Lib.hid ho5
    have Hcu5 := Lib.hid (HcuW.out.since hb5)
    have HC5 := Lib.hid hC5
    clear hgq ho5 hC5 hb5 hz5
    go_upto_region 9 with (fail)
    go_loopw [48] (fun i wr => ∃ (s : Nat) (ys : List Int), s ≤ 2 ∧ i = .int .i64 s ∧ Own wr gq (.slice (some ⟨gq, 0, none⟩) 2 2) ys ∧ ys.length = 2 ∧ Below0 2 ys ∧ CurP wr cb Ac L cq (P + 210 * x + 200) ∧ CB cb gq W wr) (fun i _ => 2 - (intOf i).toNat)
    case atStart => exact ⟨0, _, by omega, rfl, Ho5.out, by simp, fun q hq => by simp at hq; omega, Hcu5.out, HC5.out⟩
    case round =>
     obtain ⟨s, ys, hs2, rfl, hq, hyl, hyb, hcu5, hC5⟩ := hrel
     have Hq := Lib.hid hq
     have Hyl := Lib.hid hyl
     have Hyb := Lib.hid hyb
     have Hcu6 := Lib.hid hcu5
     have HC6 := Lib.hid hC5
     clear hq hyl hyb hcu5 hC5
     by_cases hlt2 : s < 2
     ·have m4 : IntKind.i64.wrap ((s : Int) + 1) = (s : Int) + 1 := wr64 _ (by omega) (by omega)
      obtain ⟨y, hy⟩ := getx ys s (by rw [Hyl.out]; exact hlt2)
      have c1 := Hq.out.cell hy
      have f1 := Hq.out.free s
      have Hset := Lib.hid (Hq.out.set (k := s) (s : Int))
      clear hy
      go_wp2
      go_roundw
      case rel => exact ⟨s + 1, _, by omega, by first | rfl | go_num, Hset.out, by rw [List.length_set]; exact Hyl.out, Hyb.out.set s (by omega), Hcu6.out.keep (fun k hk => Below.heap_setCell _ _ _ _ (by show k ≠ gq; omega)), HC6.out.setCell (p := ⟨gq, s, none⟩) (.inl (Nat.le_refl _)) _⟩
      case measure => simp [intOf]; omega
     ·have e2 : ((s : Int) < 2) = False := by simp; omega
      go_upto_region 14 with (fail)
      clear hlt2 e2
      go_loopw [14] (fun i wr => ∃ (s : Nat) (ys : List Int), (s = 0 ∨ s = 2) ∧ i = .int .i64 s ∧ Own wr gq (.slice (some ⟨gq, 0, none⟩) 2 2) ys ∧ ys.length = 2 ∧ Below0 2 ys ∧ CurP wr cb Ac L cq (P + 210 * x + 200 + s) ∧ CB cb gq W wr) (fun i _ => 2 - (intOf i).toNat)
      case atStart => exact ⟨0, ys, .inl rfl, by first | rfl | go_num, Hq.out, Hyl.out, Hyb.out, Hcu6.out, HC6.out⟩
      case round =>
       obtain ⟨s, ys, hs2, rfl, hq, hyl, hyb, hcu5, hC5⟩ := hrel
       obtain ⟨w8, rfl⟩ : ∃ z, z = wr := ⟨_, rfl⟩
       have Hyl := Lib.hid hyl
       have Hyb := Lib.hid hyb
       have Hcu7 := Lib.hid hcu5
       have HC7 := Lib.hid hC5
       have Hq := Lib.hid hq
       clear hq hyl hyb hcu5 hC5
       rcases hs2 with rfl | rfl
       ·obtain ⟨y0, hy0⟩ := getx xs 0 (by rw [Hxl.out]; omega)
        obtain ⟨y1, hy1⟩ := getx xs 1 (by rw [Hxl.out]; omega)
        have b0 := Hpb.out y0 (List.mem_of_getElem? hy0)
        have b1 := Hpb.out y1 (List.mem_of_getElem? hy1)
        obtain ⟨z0, rfl⟩ := Int.eq_ofNat_of_zero_le b0.1
        obtain ⟨z1, rfl⟩ := Int.eq_ofNat_of_zero_le b1.1
        have n1 : IntKind.i64.wrap 1 = 1 := wr64 1 (by omega) (by omega)
        have n2 : IntKind.i64.wrap 2 = 2 := wr64 2 (by omega) (by omega)
        have hz0 : z0 < 2 := by omega
        have hz1 : z1 < 2 := by omega
        have hzi0 : (z0 : Int) < 2 := by omega
        have hzi1 : (z1 : Int) < 2 := by omega
        have hgpc : gp ≠ cb := by have h1 := (World.ownsRow.lt Hop.out gp (by simp [Value.ownBlock])).1; have := Hseen.out.size; have := Hs3.out.below.size; have := Hza.out; omega
        have hpW := ownsRow_stable HopW.out (fun k hk => (show k = gp by simpa [Value.ownBlock, eq_comm] using hk) ▸ HC7.out.block gp hgp hgpc)
        have c0 := Own.cell hpW hy0
        have c1 := Own.cell hpW hy1
        clear hy0 hy1 b0 b1 hpW
        go_wp2_with fail
        refine (one_p cb Ac L cq (P + 210 * x + 200 + 0) 2 w8 Hcu7.out (by omega) (by omega)).mono ?_
        rintro e w9 ⟨bb, rfl, hcu9, hC9⟩
        have hgq8 : gq < w8.heap.size := (World.ownsRow.lt Hq.out gq (by simp [Value.ownBlock])).2
        have HC9 := Lib.hid (HC7.out.trans (hC9.mono (Nat.le_of_lt hgq8)))
        have Hq9 := Lib.hid (ownsRow_stable Hq.out (fun k hk => (show k = gq by simpa [Value.ownBlock, eq_comm] using hk) ▸ hC9.block gq hgq8 (by omega)))
        have Hcu9 := Lib.hid hcu9
        have d0 := seen_cell c0 hgpc w9 hC9
        have d1 := seen_cell c1 hgpc w9 hC9
        have E0 := have_cell d0
        have E1 := have_cell d1
        clear c0 c1 hcu9 hC9 hgq8 d0 d1
        cases bb
        ·go_wp2
         go_roundw
         case rel => exact ⟨2, ys, .inr rfl, by first | rfl | go_num, Hq9.out, Hyl.out, Hyb.out, Hcu9.out.mono (by omega), HC9.out⟩
         case measure => simp [intOf]
        ·go_upto_region 17 with (fail)
         refine wp_region_flow 11 (Since w9) (by kernel_rfl) (by kernel_rfl) (by simp) (since_drew (since_refl _)) ?_
         simp only [List.take_succ_cons, List.take_zero, List.drop_succ_cons, List.drop_zero]
         refine flow_val (v := ?_) rfl ?_ ?_; rotate_left; (intro W hW; go_simp; with_reducible rfl)
         simp only [zA]
         refine flow_val (v := ?_) rfl ?_ ?_; rotate_left; (intro W hW; go_simp; with_reducible rfl)
         simp only [zA]
         refine flow_val (v := ?_) rfl ?_ ?_; rotate_left; (intro W hW; go_simp; with_reducible rfl)
         simp only [zA]
         refine flow_val (v := ?_) rfl ?_ ?_; rotate_left; (intro W hW; go_simp; with_reducible rfl)
         simp only [zA]
         refine flow_val (v := ?_) rfl ?_ ?_; rotate_left; (intro W hW; have k1 := E0 W hW; go_simp; with_reducible rfl)
         simp only [zA]
         refine flow_val (v := ?_) rfl ?_ ?_; rotate_left; (intro W hW; go_simp; with_reducible rfl)
         simp only [zA]
         refine flow_val (v := ?_) rfl ?_ ?_; rotate_left; (intro W hW; go_simp; with_reducible rfl)
         simp only [zA]
         refine flow_val (v := ?_) rfl ?_ ?_; rotate_left; (intro W hW; go_simp; with_reducible rfl)
         simp only [zA]
         refine flow_val (v := ?_) rfl ?_ ?_; rotate_left; (intro W hW; go_simp; with_reducible rfl)
         simp only [zA]
         refine flow_val (v := ?_) rfl ?_ ?_; rotate_left; (intro W hW; have k1 := E1 W hW; go_simp; with_reducible rfl)
         simp only [zA]
         refine flow_val (v := ?_) rfl ?_ ?_; rotate_left; (intro W hW; go_simp; with_reducible rfl)
         simp only [zA]
         intro W1 hW1
         have hq1 : Own W1 gq (.slice (some ⟨gq, 0, none⟩) 2 2) ys := Own.since Hq9.out hW1
         obtain ⟨v0, hv0⟩ := getx ys z0 (by rw [Hyl.out]; exact hz0)
         have cq0 := hq1.cell hv0
         have fq0 := hq1.free z0
         have hset := hq1.set (k := z0) (z1 : Int)
         have hC10 := (HC9.out.trans (CB.of (hW1.below.mono (show gq ≤ w9.heap.size from Nat.le_of_lt (World.ownsRow.lt Hq9.out gq (by simp [Value.ownBlock])).2)))).setCell (p := ⟨gq, z0, none⟩) (.inl (Nat.le_refl _)) (.int .i64 (z1 : Int))
         have hcu10 : CurP (W1.setCell ⟨gq, z0, none⟩ (.int .i64 (z1 : Int))) cb Ac L cq (P + 210 * x + 200 + 0 + 2) := (Hcu9.out.since hW1).keep (fun k hk => Below.heap_setCell _ _ _ _ (by show k ≠ gq; omega))
         have e0 : (W1.setCell ⟨gq, z0, none⟩ (.int .i64 (z1 : Int))).cell? ⟨gp, 0, none⟩ = some (.int .i64 (z0 : Int)) := by rw [World.cell?_of_block (Below.heap_setCell _ _ _ gp (by show gp ≠ gq; omega))]; exact E0 W1 hW1
         have e1 : (W1.setCell ⟨gq, z0, none⟩ (.int .i64 (z1 : Int))).cell? ⟨gp, 1, none⟩ = some (.int .i64 (z1 : Int)) := by rw [World.cell?_of_block (Below.heap_setCell _ _ _ gp (by show gp ≠ gq; omega))]; exact E1 W1 hW1
         clear hv0 hq1 hW1 E0 E1
         go_upto_region 18 with (fail)
         obtain ⟨w10, hw10⟩ : ∃ z, z = W1.setCell ⟨gq, z0, none⟩ (.int .i64 (z1 : Int)) := ⟨_, rfl⟩
         rw [← hw10]
         rw [← hw10] at hset hC10 hcu10 e0 e1
         have E0 := have_cell e0
         have E1 := have_cell e1
         have HQ10 : Hid (Own w10 gq (.slice (some ⟨gq, 0, none⟩) 2 2) (ys.set z0 (z1 : Int))) := hset
         have HC10 := Lib.hid hC10
         have Hcu10 := Lib.hid hcu10
         clear hw10 hset hC10 hcu10 e0 e1 cq0 fq0
         refine wp_region_flow 11 (Since w10) (by kernel_rfl) (by kernel_rfl) (by simp) (since_drew (since_refl _)) ?_
         simp only [List.take_succ_cons, List.take_zero, List.drop_succ_cons, List.drop_zero]
         refine flow_val (v := ?_) rfl ?_ ?_; rotate_left; (intro W hW; go_simp; with_reducible rfl)
         simp only [zA]
         refine flow_val (v := ?_) rfl ?_ ?_; rotate_left; (intro W hW; go_simp; with_reducible rfl)
         simp only [zA]
         refine flow_val (v := ?_) rfl ?_ ?_; rotate_left; (intro W hW; go_simp; with_reducible rfl)
         simp only [zA]
         refine flow_val (v := ?_) rfl ?_ ?_; rotate_left; (intro W hW; go_simp; with_reducible rfl)
         simp only [zA]
         refine flow_val (v := ?_) rfl ?_ ?_; rotate_left; (intro W hW; go_simp; with_reducible rfl)
         simp only [zA]
         refine flow_val (v := ?_) rfl ?_ ?_; rotate_left; (intro W hW; have k1 := E1 W hW; go_simp; with_reducible rfl)
         simp only [zA]
         refine flow_val (v := ?_) rfl ?_ ?_; rotate_left; (intro W hW; go_simp; with_reducible rfl)
         simp only [zA]
         refine flow_val (v := ?_) rfl ?_ ?_; rotate_left; (intro W hW; go_simp; with_reducible rfl)
         simp only [zA]
         refine flow_val (v := ?_) rfl ?_ ?_; rotate_left; (intro W hW; go_simp; with_reducible rfl)
         simp only [zA]
         refine flow_val (v := ?_) rfl ?_ ?_; rotate_left; (intro W hW; have k1 := E0 W hW; go_simp; with_reducible rfl)
         simp only [zA]
         refine flow_val (v := ?_) rfl ?_ ?_; rotate_left; (intro W hW; go_simp; with_reducible rfl)
         simp only [zA]
         intro W2 hW2
         have hq2 : Own W2 gq (.slice (some ⟨gq, 0, none⟩) 2 2) (ys.set z0 (z1 : Int)) := Own.since HQ10.out hW2
         obtain ⟨v1, hv1⟩ := getx (ys.set z0 (z1 : Int)) z1 (by rw [List.length_set, Hyl.out]; exact hz1)
         have cq1 := hq2.cell hv1
         have fq1 := hq2.free z1
         have Hset2 := Lib.hid (hq2.set (k := z1) (z0 : Int))
         have HC11 := Lib.hid ((HC10.out.trans (CB.of (hW2.below.mono (show gq ≤ w10.heap.size from Nat.le_of_lt (World.ownsRow.lt HQ10.out gq (by simp [Value.ownBlock])).2)))).setCell (p := ⟨gq, z1, none⟩) (.inl (Nat.le_refl _)) (.int .i64 (z0 : Int)))
         have Hcu11 : Hid (CurP (W2.setCell ⟨gq, z1, none⟩ (.int .i64 (z0 : Int))) cb Ac L cq (P + 210 * x + 200 + 0 + 2)) := (Hcu10.out.since hW2).keep (fun k hk => Below.heap_setCell _ _ _ _ (by show k ≠ gq; omega))
         have Hyb2 := Lib.hid ((Hyb.out.set z0 (x := (z1 : Int)) (by omega)).set z1 (x := (z0 : Int)) (by omega))
         clear hv1 hq2 hW2 E0 E1
         go_wp2
         go_roundw
         case rel => exact ⟨2, _, .inr rfl, by first | rfl | go_num, Hset2.out, by rw [List.length_set, List.length_set]; exact Hyl.out, Hyb2.out, Hcu11.out.mono (by omega), HC11.out⟩
         case measure => simp [intOf]
       ·have HoQ : Hid (Own w8 w3.heap.size (.slice (some ⟨gq, 0, none⟩) 2 2) ys) := Hq.out.mono h3q
        have HopsQ : Hid (OwnII w8 w3.heap.size (.slice AQ ps.length cQ) ps S) := (rows_law _ lawI).stable HopsW.out (fun k hk => HC7.out.block k (Hgs.out k hk) (by have h1 := ((rows_law _ lawI).range HopsW.out k hk).1; have := Hs3.out.below.size; have := Hza.out; omega))
        have HcuQ : Hid (CurP w8 cb Ac L cq (P + 210 * x + 202)) := Hcu7.out
        have HseenQ : Hid (Seen cb w3 w8) := CB.trans HseenW.out (HC7.out.mono h3q)
        have Hgq : Hid (∀ q, (Value.slice (some ⟨gq, 0, none⟩) 2 2).ownBlock = some q → q ∉ S) := fun q hq hqs => by
         simp [Value.ownBlock] at hq
         subst hq
         have := Hgs.out _ hqs
         omega
        have hsA : Since w8 (w8.alloc (.cells #[.slice (some ⟨gq, 0, none⟩) 2 2] 25)) := since_alloc _ (since_refl _)
        have HopA := Lib.hid ((Own.since HoQ.out hsA).mono (Nat.le_refl _))
        have HopsA := Lib.hid ((rows_law _ lawI).keep HopsQ.out hsA.below)
        have HlA : Hid (ps.length + 1 ≤ 4000000) := by show _ ≤ _; have := Hpl.out; omega
        have HbA : Hid (w3.heap.size ≤ (w8.alloc (.cells #[.slice (some ⟨gq, 0, none⟩) 2 2] 25)).heap.size) := Nat.le_trans HseenQ.out.size hsA.below.size
        have HcuA := Lib.hid (HcuQ.out.since hsA)
        have HseenA := Lib.hid (HseenQ.out.after hsA)
        clear hsA
        go_wp2_with (at_builtin; refine app_rowII (base := w3.heap.size) (v := .slice AQ ps.length cQ) (u := .slice (some ⟨gq, 0, none⟩) 2 2) (xs := ys) rfl _ _ rfl rfl HopsA.out w8.heap.size rfl (by simp) HopA.out Hgq.out HlA.out HbA.out ?_; intro g9 c9 w9 S9 ho9 hb9; have Ho9 := Lib.hid ho9; have Hcu9 := Lib.hid (HcuA.out.keep (fun k hk => hb9.block k (by have := Hs3.out.below.size; have := Hza.out; omega))); have Hseen9 := Lib.hid (HseenA.out.trans' hb9); clear ho9 hb9)
        go_roundw
        case rel => exact ⟨x + 1, _, S9, by omega, by first | rfl | go_num, by have h7 := Ho9.out; have := Hpl.out; simpa using h7, by simp; exact Hpl.out, fun q hq => by
         rcases List.mem_append.1 hq with h7 | h7
         ·exact Hpp.out q h7
         ·have h8 : q = ys := by simpa using h7
          rw [h8]; exact ⟨Hyl.out, Hyb.out⟩, Hcu9.out.mono (by omega), Hseen9.out⟩
        case measure => simp [intOf]; omega
  ·obtain rfl : x = LL.length := by omega
   clear hlt hx
   have hw3 : Since w w3 := (show Since w w0 from Hb0.out).after (Hsa.out.after Hs3.out)
   have HnO := Lib.hid ((Hown.out.keep hw3.below).seen Hseen.out hcB).read
   have hza := Hza.out
   have hwn : w.heap.size ≠ cb := by omega
   have j0 := seen_cell Hq3.out.1 (by exact hwn) wo Hseen.out
   have j1 := seen_cell Hq3.out.2.1 (by exact hwn) wo Hseen.out
   have j2 := seen_cell Hq3.out.2.2 (by exact hwn) wo Hseen.out
   have J0 := have_cell j0
   have J1 := have_cell j1
   have J2 := have_cell j2
   have Hrw : Hid (BoxN wo (w.heap.size + 1) (.slice none 0 0) (.slice none 0 0) (.slice none 0 0)) := (Hseen.out.block _ (HRb.out.since Hs3.out).lt (by omega)).trans (HRb.out.since Hs3.out)
   have hso : Since wo wo := since_refl _
   clear hw3
   go_upto_region 24 with (fail)
   clear j0 j1 j2
   go_loopw [15, 95] (fun u i wr => ∃ (v : Nat) (ls : List Int), v ≤ n.ends.length ∧ i = .int .i64 v ∧ Own wr wo.heap.size u ls ∧ ls.length = 2 * v ∧ (∀ y ∈ ls, 0 ≤ y ∧ y ≤ 1000) ∧ Since wo wr) (fun _ i _ => n.ends.length - (intOf i).toNat)
   case atStart => exact ⟨0, [], Nat.zero_le _, rfl, own_nil _ _, rfl, fun y hy => by simp at hy, hso⟩
   case round =>
    obtain ⟨v, ls, hv, rfl, ho, hll, hlb, hsr⟩ := hrel
    obtain ⟨AU, cU, rfl, -, -, -⟩ := id ho.ints
    have Ho := Lib.hid ho
    have Hll := Lib.hid hll
    have Hlb := Lib.hid hlb
    have HsR := Lib.hid hsr
    clear ho hll hlb hso
    by_cases hlt : v < n.ends.length
    ·have m3 : IntKind.i64.wrap ((v : Int) + 1) = (v : Int) + 1 := wr64 _ (by omega) (by omega)
     go_upto_region 27 with (fail)
     go_loopw [15, 17] (fun u i wr => ∃ (s : Nat) (ls : List Int), s ≤ 2 ∧ i = .int .i64 s ∧ Own wr wo.heap.size u ls ∧ ls.length = 2 * v + s ∧ (∀ y ∈ ls, 0 ≤ y ∧ y ≤ 1000) ∧ Since wo wr) (fun _ i _ => 2 - (intOf i).toNat)
     case atStart => exact ⟨0, ls, by omega, rfl, Ho.out, Hll.out, Hlb.out, HsR.out⟩
     case round =>
      obtain ⟨s, ls2, hs2, rfl, ho, hll, hlb, hsr2⟩ := hrel
      obtain ⟨AV, cV, rfl, -, -, -⟩ := id ho.ints
      have Ho2 := Lib.hid ho
      have Hll2 := Lib.hid hll
      have Hlb2 := Lib.hid hlb
      have HsR2 := Lib.hid hsr2
      clear ho hll hlb hsr hsr2
      by_cases hlt2 : s < 2
      ·have m4 : IntKind.i64.wrap ((s : Int) + 1) = (s : Int) + 1 := wr64 _ (by omega) (by omega)
       have Hlen : Hid (ls2.length + 1 ≤ 17592186044416) := by show _ ≤ _; have := Hll2.out; omega
       have hv1 : (v : Int) ≤ 1000 := by omega
       go_wp2_with (at_builtin; refine app_int_s (w0 := wo) rfl _ _ rfl rfl (Ho2.out.since (since_alloc _ (since_refl _))) wr.heap.size v rfl (by simp [go_sem]) Hlen.out (since_alloc _ HsR2.out) ?_; intro g9 cc9 w9 ho9 hs9; have Ho9 := Lib.hid ho9; have Hs9 := Lib.hid hs9; clear ho9 hs9)
       go_roundw
       case rel => exact ⟨s + 1, _, by omega, by first | rfl | go_num, Ho9.out, by have := Hll2.out; simp; omega, fun y hy => by
        rcases List.mem_append.1 hy with h7 | h7
        ·exact Hlb2.out y h7
        ·have h8 : y = (v : Int) := by simpa using h7
         omega, Hs9.out⟩
       case measure => simp [intOf]; omega
      ·have e2 : ((s : Int) < 2) = False := by simp; omega
       have Hs2 : Hid (s = 2) := by show _ = _; omega
       clear hlt2
       go_wp2
       clear e2
       go_roundw
       case rel => exact ⟨v + 1, ls2, by omega, by first | rfl | go_num, Ho2.out, by have := Hll2.out; have := Hs2.out; omega, Hlb2.out, HsR2.out⟩
       case measure => simp [intOf]; omega
    ·have hvl : v = n.ends.length := by omega
     subst hvl
     clear hlt hv
     have y0 := J0 wr hsr
     have y1 := J1 wr hsr
     have y2 := J2 wr hsr
     have HpsW := Lib.hid (OwnII.read ((rows_law _ lawI).keep Hops.out hsr.below))
     have Hsh : Hid (Sheets n ps) := ⟨by rw [Hpl.out, HLL.out], fun p hp => ⟨(Hpp.out p hp).1, fun t ht => (Hpp.out p hp).2 t ht⟩⟩
     clear J0 J1 J2
     go_wp2_with fail
     refine (coLift_two _ _ _ _ n ps wr (HnO.out.keep hsr.below) Hg.out hn0 HpsW.out Hsh.out).mono ?_
     rintro e w5 ⟨ve5, vi5, vn5, N5, S5, rfl, ho5, hbd5, hb5⟩
     obtain ⟨D0, d0, rfl, -, -, -⟩ := id ho5.read.1
     obtain ⟨D1, d1, rfl, -, -, -⟩ := id ho5.read.2.1
     obtain ⟨D2, d2, rfl, -, -, -⟩ := id ho5.read.2.2
     have hs5 : Since wo w5 := hsr.after (show Since wr w5 from hb5)
     have hrw := Hrw.out.since hs5
     obtain ⟨e0, e1', e2, f0, f1, f2⟩ := hrw.box.cells
     have Ho5 := Lib.hid ho5
     have Hbd5 := Lib.hid hbd5
     have Hs5 := Lib.hid hs5
     have Hrwl := Lib.hid hrw.lt
     have HoL := Lib.hid (Own.since Ho.out (show Since wr w5 from hb5))
     clear ho5 hbd5 hs5 hb5 hrw y0 y1 y2 hsr
     go_wp2
     refine bodyPost_ret (v := .tuple #[.agg #[.slice D0 N5.ends.length d0, .slice D1 N5.ids.length d1, .slice D2 N5.inputs.length d2], .slice AU ls.length cU]) (by simp [results, Tryz.results128, go_sem, *]) rfl ?_
     have hsz : w.heap.size + 2 ≤ wo.heap.size := by have := Hs3.out.below.size; have := Hseen.out.size; omega
     have hwr := HsR.out.below.size
     have hput : ∀ j, w.heap.size + 1 < j → (set3 w5 (w.heap.size + 1) (.slice D0 N5.ends.length d0) (.slice D1 N5.ids.length d1) (.slice D2 N5.inputs.length d2)).heap[j]? = w5.heap[j]? := fun j hj => set3_blk _ _ _ _ _ (by omega)
     refine ⟨_, _, _, _, N5, S5, ls, rfl, (Ho5.out.stable (fun j hj => hput j (by have := (Ho5.out.range j hj).1; omega))).mono (by omega), Hbd5.out, Own.mono (ownsRow_stable HoL.out (fun j hj => hput j (by have := (World.ownsRow.lt HoL.out j (by simpa using hj)).1; omega))) (by omega), ⟨by have := Hll.out; omega, Hlb.out⟩, ?_, ?_⟩
     ·exact ((Hcu.out.since Hs5.out).keep (fun k hk => set3_blk _ _ _ _ _ (by omega))).mono (by omega)
     ·have h1 : CB cb w.heap.size w w5 := (CB.of (Below.trans Hb0.out ((Hsa.out.after Hs3.out).below.mono Hb0.out.size))).trans (((Hseen.out.after Hs5.out).mono (by have := Hs3.out.below.size; omega)))
      exact ((h1.setCell (p := ⟨w.heap.size + 1, 0, none⟩) (.inl (by simp)) _).setCell (p := ⟨w.heap.size + 1, 1, none⟩) (.inl (by simp)) _).setCell (p := ⟨w.heap.size + 1, 2, none⟩) (.inl (by simp)) _
end Go.Proofs.YtgmdpppljkmabaaGreat
namespace Go.Proofs.YtgmdpppljkmabaaGreat
open Go Go.RowKit
/-! crossed -/
theorem net_8 (cb : Nat) (A : Option Addr) (L c P : Nat) (w : World) (hc : CurP w cb A L c P) (hP : P ≤ 4000000000000000000) :
  Calls Tryz.prog 127 #[.pointer (some ⟨cb, 0, none⟩), .int .i64 8] w (NewD cb w.heap.size A L c (P + 200000000000000000) w (TN 100 40)) := net_p cb A L c P 8 38 w hc hP (by omega) (by omega) (by omega)
theorem net_4 (cb : Nat) (A : Option Addr) (L c P : Nat) (w : World) (hc : CurP w cb A L c P) (hP : P ≤ 4000000000000000000) :
  Calls Tryz.prog 127 #[.pointer (some ⟨cb, 0, none⟩), .int .i64 4] w (NewD cb w.heap.size A L c (P + 200000000000000000) w (TN 100 40)) := net_p cb A L c P 4 38 w hc hP (by omega) (by omega) (by omega)
set_option maxRecDepth 100000 in
set_option maxHeartbeats 8000000 in
theorem crossed_p (cb : Nat) (A : Option Addr) (L c P : Nat) (w : World) (hc : CurP w cb A L c P) (hP : P ≤ 3000000000000000000) :
  Calls Tryz.prog 52 #[.pointer (some ⟨cb, 0, none⟩)] w (NewNL cb w.heap.size A L c (P + 600000000000000000) w Bd) := by
 have hcb := hc.lt
 obtain ⟨w0, hw0⟩ : ∃ z, z = w.alloc (.cells #[.slice none 0 0, .slice none 0 0, .slice none 0 0] 27) := ⟨_, rfl⟩
 have hs0 : Since w w0 := by rw [hw0]; exact since_alloc _ (since_refl _)
 have hz0 : w0.heap.size = w.heap.size + 1 := by rw [hw0]; simp
 have hrb : BoxN w0 w.heap.size (.slice none 0 0) (.slice none 0 0) (.slice none 0 0) := by
  rw [hw0]
  show (w.heap.push _)[w.heap.size]? = _
  rw [Array.getElem?_push_size]
 have Hrb := Lib.hid hrb
 have Hs0 := Lib.hid hs0
 have Hw0 := Lib.hid hw0
 have Hz0 := Lib.hid hz0
 have Hc0 := Lib.hid (hc.since hs0)
 clear hrb hs0 hw0 hc hz0
 go_enter Tryz.func52, Tryz.ntmps52
 go_upto_region 1 with (fail)
 rw [← Hw0.out]
 go_wp2_with fail
 refine (net_8 cb A L c P w0 Hc0.out (by omega)).mono ?_
 rintro e w1 ⟨ve0, vi0, vn0, N0, S0, rfl, ho, ⟨hNg, hN0⟩, hcu1, hC1⟩
 obtain ⟨A1, c1, rfl, -, hm1, -⟩ := id ho.read.1
 obtain ⟨AI, cI, rfl, -, -, -⟩ := id ho.read.2.1
 obtain ⟨AN, cN, rfl, -, -, -⟩ := id ho.read.2.2
 obtain ⟨m, hNl⟩ : ∃ m, N0.ends.length = m := ⟨_, rfl⟩
 have hmM : m ≤ 40 := by rw [← hNl]; exact hNg.ends
 have hm0 : 0 < m := by omega
 obtain ⟨w2, hw2⟩ : ∃ z, z = w1.alloc (.cells #[.slice A1 N0.ends.length c1, .slice AI N0.ids.length cI, .slice AN N0.inputs.length cN] 27) := ⟨_, rfl⟩
 obtain ⟨pb, hpb⟩ : ∃ z, z = w1.heap.size := ⟨_, rfl⟩
 have h12 : Since w1 w2 := by rw [hw2]; exact since_alloc _ (since_refl _)
 have hbx : Box3 w2 pb (.slice A1 N0.ends.length c1) (.slice AI N0.ids.length cI) (.slice AN N0.inputs.length cN) := by rw [hw2, hpb]; exact Box3.new _ _ _ _ _
 have Hbx := Lib.hid hbx
 have Ho2 := Lib.hid (ho.keep h12.below)
 have Hcu2 := Lib.hid (hcu1.since h12)
 have Hse2 : Hid (Seen cb w0 w2) := (show Seen cb w0 w1 from hC1).after h12
 have Hpb : Hid (w0.heap.size ≤ pb ∧ pb < w2.heap.size ∧ cb < pb) := ⟨by rw [hpb]; exact hC1.size, by rw [hw2, hpb]; simp, by have h1 := hC1.size; have h2 := Hz0.out; omega⟩
 have Hpb2 := Lib.hid hpb
 have Hw2 := Lib.hid hw2
 have Hg0 := Lib.hid hNg
 have HNl := Lib.hid hNl
 clear hbx ho hcu1 hC1 h12 hw2 hpb hNg hN0
 rw [hNl] at Hbx Ho2 Hw2
 clear hNl
 go_upto_region 2 with (fail)
 rw [HNl.out, ← Hw2.out, ← Hpb2.out]
 go_wp2_with fail
 refine (one_p cb A L c _ 2 w2 Hcu2.out (by omega) (by omega)).mono ?_
 rintro e w3 ⟨bb, rfl, hcu3, hC3⟩
 have Hcu3 := Lib.hid hcu3
 have Hse3 := Lib.hid (Hse2.out.trans hC3)
 have Hss3 : Hid (Seen cb w2 w3) := hC3
 clear hcu3 hC3
 cases bb
 ·have hpc : pb ≠ cb := by have := Hpb.out; omega
  have hcb0 : cb < w0.heap.size := by have := Hz0.out; omega
  have hcw3 : cb < w3.heap.size := Hcu3.out.lt
  have y0 := seen_cell Hbx.out.cells.1 hpc w3 Hss3.out
  have y1 := seen_cell Hbx.out.cells.2.1 hpc w3 Hss3.out
  have y2 := seen_cell Hbx.out.cells.2.2.1 hpc w3 Hss3.out
  have Y0 := seen_cell y0 hpc
  have Y1 := seen_cell y1 hpc
  have Y2 := seen_cell y2 hpc
  obtain ⟨Q, hQ⟩ : ∃ z, z = P + 200000000000000000 + 2 := ⟨_, rfl⟩
  have HQ : Hid (Q = P + 200000000000000000 + 2) := hQ
  rw [← hQ] at Hcu3
  clear hQ
  go_upto_region 7 with (fail)
  clear y0 y1 y2
  go_loopw [7, 24] (fun u i wr => ∃ (k : Nat) (ls : List Int), k ≤ m ∧ i = .int .i64 k ∧ Own wr w3.heap.size u ls ∧ ls.length = k ∧ (∀ y ∈ ls, 0 ≤ y ∧ y ≤ 1000) ∧ CurP wr cb A L c (Q + 2 * k) ∧ Seen cb w3 wr) (fun _ i _ => m - (intOf i).toNat)
  case atStart => exact ⟨0, [], Nat.zero_le _, rfl, own_nil _ _, rfl, fun y hy => by simp at hy, Hcu3.out.mono (by omega), Seen.refl _ _⟩
  case round =>
   obtain ⟨k, ls, hk, rfl, hol, hll, hlb, hcu, hse⟩ := hrel
   obtain ⟨AU, cU, rfl, -, -, -⟩ := id hol.ints
   have Hol := Lib.hid hol
   have Hll := Lib.hid hll
   have Hlb := Lib.hid hlb
   have Hcu := Lib.hid hcu
   have Hse := Lib.hid hse
   clear hol hll hlb hcu hse
   by_cases hlt : k < m
   ·have m3 : IntKind.i64.wrap ((k : Int) + 1) = (k : Int) + 1 := wr64 _ (by omega) (by omega)
    go_wp2_with fail
    refine (pick_p cb A L c (Q + 2 * k) 2 wr Hcu.out (by have := HQ.out; omega) (by omega)).mono ?_
    rintro e w5 ⟨y, rfl, hy, hcu5, hC5⟩
    have hyb : y < 2 := by omega
    have hsA : Since w5 (w5.alloc (.cells #[.int .i64 (y : Int)] 3)) := since_alloc _ (since_refl _)
    have Hol5 := Lib.hid (Own.since (Own.seen Hol.out hC5 hcw3) hsA)
    have Hse5 := Lib.hid ((Hse.out.trans hC5).after hsA)
    have Hcu5 := Lib.hid (hcu5.since hsA)
    have Hlen : Hid (ls.length + 1 ≤ 17592186044416) := by show _ ≤ _; have := Hll.out; omega
    clear hy hcu5 hC5 hsA
    go_wp2_with (at_builtin; refine app_int (base := w3.heap.size) rfl _ _ rfl rfl Hol5.out w5.heap.size y rfl (by simp) Hlen.out Hse5.out.size ?_; intro g9 cc9 w9 ho9 hg9 hl9 hlt9; have hb9 := Below.grown (Below.refl w3.heap.size _) hg9 Hse5.out.size (fun q hq => (World.ownsRow.lt Hol5.out q hq).1); have Ho9 := Lib.hid ho9; have Hse9 := Lib.hid (Seen.trans' Hse5.out hb9); have Hcu9 := Lib.hid (Hcu5.out.keep (fun k hk => hb9.block k (by omega))); clear ho9 hg9 hl9 hlt9 hb9)
    go_roundw
    case rel => exact ⟨k + 1, _, by omega, by first | rfl | go_num, Ho9.out, by have := Hll.out; simp; omega, fun q hq => by
     rcases List.mem_append.1 hq with h7 | h7
     ·exact Hlb.out q h7
     ·have h8 : q = (y : Int) := by simpa using h7
      omega, Hcu9.out.mono (by omega), Hse9.out⟩
    case measure => simp [intOf]; omega
   ·have hkm : m = k := by omega
    subst hkm
    clear hlt
    go_wp2_with fail
    refine (one_p cb A L c _ 20 wr Hcu.out (by have := HQ.out; omega) (by omega)).mono ?_
    rintro e w5 ⟨b2, rfl, hcu5, hC5⟩
    have Hol5 := Lib.hid (Own.seen Hol.out hC5 hcw3)
    have Hse5 := Lib.hid (Hse.out.trans hC5)
    have Hcu5 := Lib.hid hcu5
    clear hcu5 hC5
    cases b2
    ·have z0 := Y0 w5 Hse5.out
     have z1 := Y1 w5 Hse5.out
     have z2 := Y2 w5 Hse5.out
     have HN8 : Hid (NetIn w5 (.slice A1 m c1) (.slice AI N0.ids.length cI) (.slice AN N0.inputs.length cN) N0) := ((Ho2.out.seen Hss3.out hcb0).seen Hse5.out hcb0).read
     clear Y0 Y1 Y2
     go_wp2_with fail
     refine (neBend_p cb A L c _ 100 40 _ _ _ N0 w5 Hcu5.out (by have := HQ.out; omega) HN8.out Hg0.out (by have := HNl.out; omega) (by omega) (by omega)).mono ?_
     rintro e w9 ⟨ve9, vi9, vn9, N9, S9, rfl, ho9, hbd9, hcu9, hC9⟩
     obtain ⟨D0, d0, rfl, -, -, -⟩ := id ho9.read.1
     obtain ⟨D1, d1, rfl, -, -, -⟩ := id ho9.read.2.1
     obtain ⟨D2, d2, rfl, -, -, -⟩ := id ho9.read.2.2
     have hse9 : Seen cb w0 w9 := (Hse3.out.trans (Hse5.out : CB cb w3.heap.size w3 w5)).trans hC9
     have hrw : BoxN w9 w.heap.size (.slice none 0 0) (.slice none 0 0) (.slice none 0 0) := (hse9.block _ Hrb.out.lt (by omega)).trans Hrb.out
     obtain ⟨e0, e1, e2, f0, f1, f2⟩ := hrw.box.cells
     have Ho9 := Lib.hid ho9
     have Hol9 := Lib.hid (Own.seen Hol5.out hC9 hcw3)
     have Hcu9 := Lib.hid hcu9
     have Hse9 := Lib.hid hse9
     have Hbd9 := Lib.hid hbd9
     have Hs38 : Hid (w0.heap.size ≤ w3.heap.size ∧ w3.heap.size ≤ w5.heap.size) := ⟨Hse3.out.size, Hse5.out.size⟩
     clear ho9 hbd9 hcu9 hC9 hse9 hrw z0 z1 z2
     go_wp2
     refine bodyPost_ret (v := .tuple #[.agg #[.slice D0 N9.ends.length d0, .slice D1 N9.ids.length d1, .slice D2 N9.inputs.length d2], .slice AU ls.length cU]) (by simp [results, Tryz.results52, go_sem, *]) rfl ?_
     have hz := Hz0.out
     have hz4 := Hs38.out
     have hput : ∀ j, w.heap.size < j → (set3 w9 w.heap.size (.slice D0 N9.ends.length d0) (.slice D1 N9.ids.length d1) (.slice D2 N9.inputs.length d2)).heap[j]? = w9.heap[j]? := fun j hj => set3_blk _ _ _ _ _ (by omega)
     refine ⟨_, _, _, _, N9, S9, _, rfl, (Ho9.out.stable (fun j hj => hput j (by have := (Ho9.out.range j hj).1; omega))).mono (by omega), Hbd9.out, Own.mono (ownsRow_stable Hol9.out (fun j hj => hput j (by have := (World.ownsRow.lt Hol9.out j (by simpa using hj)).1; omega))) (by omega), ⟨by have := Hll.out; omega, Hlb.out⟩, ?_, ?_⟩
     ·exact (Hcu9.out.keep (fun k hk => set3_blk _ _ _ _ _ (by omega))).mono (by have := HQ.out; omega)
     ·have h1 : CB cb w.heap.size w w9 := (CB.of Hs0.out.below).trans (Hse9.out.mono (by omega))
      exact ((h1.setCell (p := ⟨w.heap.size, 0, none⟩) (.inl (by simp)) _).setCell (p := ⟨w.heap.size, 1, none⟩) (.inl (by simp)) _).setCell (p := ⟨w.heap.size, 2, none⟩) (.inl (by simp)) _
    ·have hsA : Since w5 (w5.alloc (.cells #[.int .i64 0] 3)) := since_alloc _ (since_refl _)
     have Hol6 := Lib.hid (Own.since Hol5.out hsA)
     have Hse6 := Lib.hid (Hse5.out.after hsA)
     have Hcu6 := Lib.hid (Hcu5.out.since hsA)
     have Hlen : Hid (ls.length + 1 ≤ 17592186044416) := by show _ ≤ _; have := Hll.out; omega
     clear hsA
     go_upto_region 12 with (at_builtin; refine app_int (base := w3.heap.size) rfl _ _ rfl rfl Hol6.out w5.heap.size 0 rfl (by simp) Hlen.out Hse6.out.size ?_; intro g8 cc8 w8 ho9 hg9 hl9 hlt9; have hb9 := Below.grown (Below.refl w3.heap.size _) hg9 Hse6.out.size (fun q hq => (World.ownsRow.lt Hol6.out q hq).1); have Ho8 := Lib.hid ho9; have Hse8 := Lib.hid (Seen.trans' Hse6.out hb9); have Hcu8 := Lib.hid (Hcu6.out.keep (fun k hk => hb9.block k (by omega))); clear ho9 hg9 hl9 hlt9 hb9)
     have z0 := Y0 w8 Hse8.out
     have z1 := Y1 w8 Hse8.out
     have z2 := Y2 w8 Hse8.out
     have HN8 : Hid (NetIn w8 (.slice A1 m c1) (.slice AI N0.ids.length cI) (.slice AN N0.inputs.length cN) N0) := ((Ho2.out.seen Hss3.out hcb0).seen Hse8.out hcb0).read
     clear Y0 Y1 Y2
     go_wp2_with fail
     refine (neBend_p cb A L c _ 100 40 _ _ _ N0 w8 Hcu8.out (by have := HQ.out; omega) HN8.out Hg0.out (by have := HNl.out; omega) (by omega) (by omega)).mono ?_
     rintro e w9 ⟨ve9, vi9, vn9, N9, S9, rfl, ho9, hbd9, hcu9, hC9⟩
     obtain ⟨D0, d0, rfl, -, -, -⟩ := id ho9.read.1
     obtain ⟨D1, d1, rfl, -, -, -⟩ := id ho9.read.2.1
     obtain ⟨D2, d2, rfl, -, -, -⟩ := id ho9.read.2.2
     have hse9 : Seen cb w0 w9 := (Hse3.out.trans (Hse8.out : CB cb w3.heap.size w3 w8)).trans hC9
     have hrw : BoxN w9 w.heap.size (.slice none 0 0) (.slice none 0 0) (.slice none 0 0) := (hse9.block _ Hrb.out.lt (by omega)).trans Hrb.out
     obtain ⟨e0, e1, e2, f0, f1, f2⟩ := hrw.box.cells
     have Ho9 := Lib.hid ho9
     have Hol9 := Lib.hid (Own.seen Ho8.out hC9 hcw3)
     have Hcu9 := Lib.hid hcu9
     have Hse9 := Lib.hid hse9
     have Hbd9 := Lib.hid hbd9
     have Hs38 : Hid (w0.heap.size ≤ w3.heap.size ∧ w3.heap.size ≤ w8.heap.size) := ⟨Hse3.out.size, Hse8.out.size⟩
     clear ho9 hbd9 hcu9 hC9 hse9 hrw z0 z1 z2
     go_wp2
     refine bodyPost_ret (v := .tuple #[.agg #[.slice D0 N9.ends.length d0, .slice D1 N9.ids.length d1, .slice D2 N9.inputs.length d2], .slice (some ⟨g8, 0, none⟩) (ls.length + 1) cc8]) (by simp [results, Tryz.results52, go_sem, *]) rfl ?_
     have hz := Hz0.out
     have hz4 := Hs38.out
     have hput : ∀ j, w.heap.size < j → (set3 w9 w.heap.size (.slice D0 N9.ends.length d0) (.slice D1 N9.ids.length d1) (.slice D2 N9.inputs.length d2)).heap[j]? = w9.heap[j]? := fun j hj => set3_blk _ _ _ _ _ (by omega)
     refine ⟨_, _, _, _, N9, S9, _, rfl, (Ho9.out.stable (fun j hj => hput j (by have := (Ho9.out.range j hj).1; omega))).mono (by omega), Hbd9.out, Own.mono (ownsRow_stable Hol9.out (fun j hj => hput j (by have := (World.ownsRow.lt Hol9.out j (by simpa using hj)).1; omega))) (by omega), ⟨by have := Hll.out; simp; omega, fun q hq => by
            rcases List.mem_append.1 hq with h7 | h7
            ·exact Hlb.out q h7
            ·have h8 : q = 0 := by simpa using h7
             omega⟩, ?_, ?_⟩
     ·exact (Hcu9.out.keep (fun k hk => set3_blk _ _ _ _ _ (by omega))).mono (by have := HQ.out; omega)
     ·have h1 : CB cb w.heap.size w w9 := (CB.of Hs0.out.below).trans (Hse9.out.mono (by omega))
      exact ((h1.setCell (p := ⟨w.heap.size, 0, none⟩) (.inl (by simp)) _).setCell (p := ⟨w.heap.size, 1, none⟩) (.inl (by simp)) _).setCell (p := ⟨w.heap.size, 2, none⟩) (.inl (by simp)) _
 ·go_wp2_with fail
  refine (net_4 cb A L c _ w3 Hcu3.out (by omega)).mono ?_
  rintro e w4 ⟨ve4, vi4, vn4, N4, S4, rfl, ho4, ⟨hg4, hn4⟩, hcu4, hC4⟩
  obtain ⟨B0, b0, rfl, -, -, -⟩ := id ho4.read.1
  obtain ⟨B1, b1, rfl, -, -, -⟩ := id ho4.read.2.1
  obtain ⟨B2, b2, rfl, -, -, -⟩ := id ho4.read.2.2
  have Ho4 := Lib.hid ho4
  have Hg4 := Lib.hid hg4
  have Hcu4 := Lib.hid hcu4
  have Hse4 := Lib.hid (Hse3.out.trans hC4)
  have Hn4 := Lib.hid hn4
  clear ho4 hg4 hcu4 hC4 hn4
  have hcw3 : cb < w3.heap.size := Hcu3.out.lt
  go_wp2_with fail
  refine (lift_p cb A L c _ w3.heap.size _ _ _ N4 S4 w4 Hcu4.out (by omega) Ho4.out hcw3 Hg4.out Hn4.out).mono ?_
  rintro e w5 ⟨ve5, vi5, vn5, um, N5, S5, ls, rfl, ho5, hbd5, hol, hlb, hcu5, hC5⟩
  obtain ⟨D0, d0, rfl, -, -, -⟩ := id ho5.read.1
  obtain ⟨D1, d1, rfl, -, -, -⟩ := id ho5.read.2.1
  obtain ⟨D2, d2, rfl, -, -, -⟩ := id ho5.read.2.2
  obtain ⟨AU, cU, rfl, -, -, -⟩ := id hol.ints
  obtain ⟨w6, hw6⟩ : ∃ z, z = w5.alloc (.cells #[.slice D0 N5.ends.length d0, .slice D1 N5.ids.length d1, .slice D2 N5.inputs.length d2] 27) := ⟨_, rfl⟩
  have h56 : Since w5 w6 := by rw [hw6]; exact since_alloc _ (since_refl _)
  have hse6 : Seen cb w0 w6 := (Hse4.out.trans hC5).after h56
  have hbx6 : Box3 w6 w5.heap.size (.slice D0 N5.ends.length d0) (.slice D1 N5.ids.length d1) (.slice D2 N5.inputs.length d2) := by rw [hw6]; exact Box3.new _ _ _ _ _
  have hrw : BoxN w6 w.heap.size (.slice none 0 0) (.slice none 0 0) (.slice none 0 0) := (hse6.block _ Hrb.out.lt (by omega)).trans Hrb.out
  obtain ⟨k0, k1, k2, -, -, -⟩ := hbx6.cells
  obtain ⟨e0, e1, e2, f0, f1, f2⟩ := hrw.box.cells
  have Ho6 := Lib.hid (ho5.keep h56.below)
  have Hol6 := Lib.hid (Own.since hol h56)
  have Hcu6 := Lib.hid (hcu5.since h56)
  have Hse6 := Lib.hid hse6
  have Hbd5 := Lib.hid hbd5
  have Hlb := Lib.hid hlb
  have Hw6 := Lib.hid hw6
  have hsz4 : Hid (w0.heap.size ≤ w4.heap.size) := Hse4.out.size
  clear ho5 hbd5 hol hlb hcu5 hC5 hw6 h56 hse6 hbx6 hrw
  go_upto_region 4 with (fail)
  rw [← Hw6.out]
  go_wp2
  refine bodyPost_ret (v := .tuple #[.agg #[.slice D0 N5.ends.length d0, .slice D1 N5.ids.length d1, .slice D2 N5.inputs.length d2], .slice AU ls.length cU]) (by simp [results, Tryz.results52, go_sem, *]) rfl ?_
  have hz := Hz0.out
  have hz4 := hsz4.out
  have hput : ∀ j, w.heap.size < j → (set3 w6 w.heap.size (.slice D0 N5.ends.length d0) (.slice D1 N5.ids.length d1) (.slice D2 N5.inputs.length d2)).heap[j]? = w6.heap[j]? := fun j hj => set3_blk _ _ _ _ _ (by omega)
  refine ⟨_, _, _, _, N5, S5, ls, rfl, (Ho6.out.stable (fun j hj => hput j (by have := (Ho6.out.range j hj).1; omega))).mono (by omega), Hbd5.out, Own.mono (ownsRow_stable Hol6.out (fun j hj => hput j (by have := (World.ownsRow.lt Hol6.out j (by simpa using hj)).1; omega))) (by omega), Hlb.out, ?_, ?_⟩
  ·exact (Hcu6.out.keep (fun k hk => set3_blk _ _ _ _ _ (by omega))).mono (by omega)
  ·have h1 : CB cb w.heap.size w w6 := (CB.of Hs0.out.below).trans (Hse6.out.mono (by omega))
   exact ((h1.setCell (p := ⟨w.heap.size, 0, none⟩) (.inl (by simp)) _).setCell (p := ⟨w.heap.size, 1, none⟩) (.inl (by simp)) _).setCell (p := ⟨w.heap.size, 2, none⟩) (.inl (by simp)) _
end Go.Proofs.YtgmdpppljkmabaaGreat
namespace Go.Proofs.YtgmdpppljkmabaaGreat
open Go Go.RowKit
/-! DrawCrossingsOf: a cursor of its own -/
def ByS (w : World) (v : Value) (L : Nat) : Prop := ∃ A c, v = .slice A L c ∧ L ≤ c ∧ c ≤ maxLen ∧ ∀ k, k < L → ∃ b off x, A = some ⟨b, off, none⟩ ∧ w.cell? ⟨b, off + k, none⟩ = some (.int .u8 x) ∧ 0 ≤ x ∧ x < 256
theorem ByS.keep {w w' : World} {v : Value} {L : Nat} (h : ByS w v L) (hb : Below w.heap.size w w') : ByS w' v L := by
 obtain ⟨A, c, h1, h2, h3, h4⟩ := h
 refine ⟨A, c, h1, h2, h3, fun k hk => ?_⟩
 obtain ⟨b, off, x, e1, e2, e3, e4⟩ := h4 k hk
 exact ⟨b, off, x, e1, bc hb e2, e3, e4⟩
theorem cur_new {w w2 : World} {A : Option Addr} {L c cb : Nat} {t : TypeId} (hb : ∀ k, k < L → ∃ b off x, A = some ⟨b, off, none⟩ ∧ w.cell? ⟨b, off + k, none⟩ = some (.int .u8 x) ∧ 0 ≤ x ∧ x < 256) (hs : Since w w2) (hcb : w.heap.size ≤ cb) (hc : w2.heap[cb]? = some (.cells #[.slice A L c, .int .i64 0, .int .u64 0] t)) (hL : L ≤ 1048576) (hLc : L ≤ c) : CurP w2 cb A L c 0 := by
 refine ⟨0, 0, ⟨⟨_, hc⟩, fun k hk => ?_, hL, hLc, by omega⟩, Nat.le_refl _⟩
 obtain ⟨b, off, x, e1, e2, e3, e4⟩ := hb k hk
 have := cell_lt e2
 exact ⟨b, off, x, e1, by simp at this; omega, bc hs e2, e3, e4⟩
def NewNL2 (w : World) (T : Net → Prop) (e : Ending) (w' : World) : Prop :=
 ∃ ve vi vn um N S ls, e = .returned (.tuple #[.agg #[ve, vi, vn], um]) ∧ OwnNet w' w.heap.size ve vi vn N S ∧ T N ∧ Own w' w.heap.size um ls ∧ (ls.length ≤ 200 ∧ ∀ x ∈ ls, 0 ≤ x ∧ x ≤ 1000) ∧ Below w.heap.size w w'
set_option maxRecDepth 100000 in
set_option maxHeartbeats 8000000 in
theorem drawCrossingsOf_any (v : Value) (L : Nat) (w : World) (h : ByS w v L) (hL : L ≤ 1048576) :
  Calls Tryz.prog 8 #[v] w (NewNL2 w Bd) := by
 obtain ⟨A, c, rfl, hLc, hcm, hby⟩ := h
 obtain ⟨w0, hw0⟩ : ∃ z, z = w.alloc (.cells #[.slice none 0 0, .slice none 0 0, .slice none 0 0] 27) := ⟨_, rfl⟩
 have hs0 : Since w w0 := by rw [hw0]; exact since_alloc _ (since_refl _)
 have hz0 : w0.heap.size = w.heap.size + 1 := by rw [hw0]; simp
 have hrb : BoxN w0 w.heap.size (.slice none 0 0) (.slice none 0 0) (.slice none 0 0) := by
  rw [hw0]
  show (w.heap.push _)[w.heap.size]? = _
  rw [Array.getElem?_push_size]
 obtain ⟨w1, hw1⟩ : ∃ z, z = w0.alloc (.cells #[.slice A L c, .int .i64 0, .int .u64 0] 78) := ⟨_, rfl⟩
 obtain ⟨cb, hcbd⟩ : ∃ z, z = w0.heap.size := ⟨_, rfl⟩
 have hs1 : Since w0 w1 := by rw [hw1]; exact since_alloc _ (since_refl _)
 have hcc : w1.heap[cb]? = some (.cells #[.slice A L c, .int .i64 0, .int .u64 0] 78) := by
  rw [hw1, hcbd]
  show (w0.heap.push _)[w0.heap.size]? = _
  rw [Array.getElem?_push_size]
 have Hcu := Lib.hid (cur_new hby (hs0.after hs1) (by omega) hcc hL hLc)
 have Hrb := Lib.hid (hrb.since hs1)
 have Hs1 := Lib.hid (hs0.after hs1)
 have Hw0 := Lib.hid hw0
 have Hw1 := Lib.hid hw1
 have Hcb : Hid (cb = w0.heap.size) := hcbd
 have Hz0 := Lib.hid hz0
 have Hz1 : Hid (w1.heap.size = w.heap.size + 1 + 1) := by show _ = _; rw [hw1]; simp; omega
 clear hby hs0 hrb hs1 hcc hw0 hw1 hcbd hz0
 go_enter Tryz.func8, Tryz.ntmps8
 go_upto_region 1 with (fail)
 rw [← Hw0.out]
 go_upto_region 2 with (fail)
 rw [← Hw1.out, ← Hcb.out]
 go_wp2_with fail
 refine (crossed_p cb A L c 0 w1 Hcu.out (by omega)).mono ?_
 rintro e w3 ⟨ve, vi, vn, um, N, S, ls, rfl, ho, hbd, hol, hlb, hcu3, hC3⟩
 obtain ⟨D0, d0, rfl, -, -, -⟩ := id ho.read.1
 obtain ⟨D1, d1, rfl, -, -, -⟩ := id ho.read.2.1
 obtain ⟨D2, d2, rfl, -, -, -⟩ := id ho.read.2.2
 obtain ⟨AU, cU, rfl, -, -, -⟩ := id hol.ints
 have hrw : BoxN w3 w.heap.size (.slice none 0 0) (.slice none 0 0) (.slice none 0 0) := (hC3.block _ Hrb.out.lt (by have := Hcb.out; have := Hz0.out; omega)).trans Hrb.out
 obtain ⟨e0, e1, e2, f0, f1, f2⟩ := hrw.box.cells
 have Ho := Lib.hid ho
 have Hbd := Lib.hid hbd
 have Hol := Lib.hid hol
 have Hlb := Lib.hid hlb
 have HC := Lib.hid hC3
 clear ho hbd hol hlb hcu3 hC3 hrw
 go_wp2
 refine bodyPost_ret (v := .tuple #[.agg #[.slice D0 N.ends.length d0, .slice D1 N.ids.length d1, .slice D2 N.inputs.length d2], .slice AU ls.length cU]) (by simp [results, Tryz.results8, go_sem, *]) rfl ?_
 have hz := Hz1.out
 have hput : ∀ j, w.heap.size < j → (set3 w3 w.heap.size (.slice D0 N.ends.length d0) (.slice D1 N.ids.length d1) (.slice D2 N.inputs.length d2)).heap[j]? = w3.heap[j]? := fun j hj => set3_blk _ _ _ _ _ (by omega)
 refine ⟨_, _, _, _, N, S, ls, rfl, (Ho.out.stable (fun j hj => hput j (by have := (Ho.out.range j hj).1; omega))).mono (by omega), Hbd.out, Own.mono (ownsRow_stable Hol.out (fun j hj => hput j (by have := (World.ownsRow.lt Hol.out j (by simpa using hj)).1; omega))) (by omega), Hlb.out, ?_⟩
 have h1 : Below w.heap.size w w3 := Below.trans Hs1.out.below ((HC.out.mono (by omega)).below (by have := Hcb.out; have := Hz0.out; omega))
 exact ((h1.setCell (by simp) _).setCell (by simp) _).setCell (by simp) _
end Go.Proofs.YtgmdpppljkmabaaGreat
