/- Parts of the proof: walks of functions and plain laws. -/
import Derived.Test.YtgmdpppljkmabaaGreatP0
import Derived.Test.YtgmdpppljkmabaaGreatP19
namespace Go.Proofs.YtgmdpppljkmabaaGreat
open Go Go.RowKit
/-! ring -/
theorem CB.blkN {cb B b : Nat} {w w' : World} {x y z : Value} (h : CB cb B w w') (hx : BoxN w b x y z) (hb : b < B) (hn : b ≠ cb) : BoxN w' b x y z := (h.block b hb hn).trans hx
theorem ret_net {cb P : Nat} {A : Option Addr} {L c : Nat} {w w0 W : World} {ve vi vn : Value} {N : Net} {S : List Nat} (h0 : Since w w0) (ho : OwnNet W (w.heap.size + 1) ve vi vn N S) (hc : CurP W cb A L c P) (hf : CB cb (w.heap.size + 1) w0 W) (hcb : cb < w.heap.size) :
  OwnNet (set3 W w.heap.size ve vi vn) w.heap.size ve vi vn N S ∧ CurP (set3 W w.heap.size ve vi vn) cb A L c P ∧ CB cb w.heap.size w (set3 W w.heap.size ve vi vn) := by
 refine ⟨(ho.stable (fun k hk => set3_blk _ _ _ _ _ (by have := (ho.range k hk).1; omega))).mono (by omega), hc.keep (fun k hk => set3_blk _ _ _ _ _ (by omega)), ?_⟩
 have h1 : CB cb w.heap.size w W := (CB.of h0.below).trans (hf.mono (by omega))
 exact ((h1.setCell (p := ⟨w.heap.size, 0, none⟩) (.inl (Nat.le_refl _)) _).setCell (p := ⟨w.heap.size, 1, none⟩) (.inl (Nat.le_refl _)) _).setCell (p := ⟨w.heap.size, 2, none⟩) (.inl (Nat.le_refl _)) _
def TN (R M : Nat) (N : Net) : Prop := Gd R M N ∧ 0 < N.ends.length
set_option maxRecDepth 100000 in
set_option maxHeartbeats 8000000 in
theorem ring_p (cb : Nat) (A : Option Addr) (L c P most M : Nat) (w : World) (hc : CurP w cb A L c P) (hP : P ≤ 4611686018425000000) (hmo : 1 ≤ most) (hmo2 : most ≤ M) (hM : M ≤ 40) :
  Calls Tryz.prog 190 #[.pointer (some ⟨cb, 0, none⟩), .int .i64 most] w (NewD cb w.heap.size A L c (P + 200000) w (TN 100 M)) := by
 have hcb := hc.lt
 obtain ⟨B, hBd⟩ : ∃ z, z = w.heap.size + 1 := ⟨_, rfl⟩
 obtain ⟨w0, hw0⟩ : ∃ z, z = w.alloc (.cells #[.slice none 0 0, .slice none 0 0, .slice none 0 0] 27) := ⟨_, rfl⟩
 have hs0 : Since w w0 := by rw [hw0]; exact since_alloc _ (since_refl _)
 have hz0 : w0.heap.size = B := by rw [hw0, hBd]; simp
 have hrb : BoxN w0 w.heap.size (.slice none 0 0) (.slice none 0 0) (.slice none 0 0) := by
  rw [hw0]
  show (w.heap.push _)[w.heap.size]? = _
  rw [Array.getElem?_push_size]
 have Hrb := Lib.hid hrb
 have Hs0 := Lib.hid hs0
 have Hw0 := Lib.hid hw0
 have HBd := Lib.hid hBd
 have Hz0 := Lib.hid hz0
 have Hc0 := Lib.hid (hc.since hs0)
 clear hrb hs0 hw0 hc hBd hz0
 go_enter Tryz.func190, Tryz.ntmps190
 go_upto_region 1 with (fail)
 rw [← Hw0.out]
 go_wp2_with fail
 refine (pick_p cb A L c P most w0 Hc0.out (by omega) (by omega)).mono ?_
 rintro e w1 ⟨x, rfl, hx, hcu1, hC1⟩
 obtain ⟨m, hm⟩ : ∃ m : Nat, m = x + 1 := ⟨_, rfl⟩
 have m1 : IntKind.i64.wrap (1 + (x : Int)) = (m : Int) := by rw [wr64 _ (by omega) (by omega)]; omega
 have hmM : m ≤ M := by omega
 have hm0 : 0 < m := by omega
 have Hcu1 := Lib.hid hcu1
 have HC1 := Lib.hid hC1
 clear hcu1 hC1 hx
 have Hm := Lib.hid hm
 clear hm
 go_wp2_with fail
 refine (neEmpty_any m (by omega) w1).mono ?_
 rintro e w2 ⟨ve0, vi0, vn0, S0, rfl, ho, hb2⟩
 obtain ⟨N0, hN0⟩ : ∃ z, z = emptyNet m := ⟨_, rfl⟩
 rw [← hN0] at ho
 have hNl : N0.ends.length = m := by rw [hN0]; simp [emptyNet]
 have hNg : Gd 0 M N0 := by rw [hN0]; exact Gd.empty hmM
 obtain ⟨A1, c1, rfl, -, hm1, -⟩ := id ho.read.1
 obtain ⟨AI, cI, rfl, -, -, -⟩ := id ho.read.2.1
 obtain ⟨AN, cN, rfl, -, -, -⟩ := id ho.read.2.2
 obtain ⟨w3, hw3⟩ : ∃ z, z = w2.alloc (.cells #[.slice A1 N0.ends.length c1, .slice AI N0.ids.length cI, .slice AN N0.inputs.length cN] 27) := ⟨_, rfl⟩
 obtain ⟨pb, hpb⟩ : ∃ z, z = w2.heap.size := ⟨_, rfl⟩
 have h23 : Since w2 w3 := by rw [hw3]; exact since_alloc _ (since_refl _)
 have hB1 : B ≤ w1.heap.size := by rw [← Hz0.out]; exact HC1.out.size
 have hmb : Mb cb B pb A L c (P + 2) w0 w3 (.slice A1 N0.ends.length c1) (.slice AI N0.ids.length cI) (.slice AN N0.inputs.length cN) N0 S0 :=
  ⟨(ho.keep h23.below).mono hB1, by rw [hw3, hpb]; exact Box3.new _ _ _ _ _, fun hj => by have := (ho.range _ hj).2; omega, (Hcu1.out.since hb2).since h23, (HC1.out.mono (by have := Hz0.out; omega)).trans ((CB.of (Below.trans hb2 (h23.below.mono hb2.size))).mono hB1)⟩
 have Hmb := Lib.hid hmb
 have Hpb : Hid (B ≤ pb ∧ pb < w3.heap.size) := ⟨by rw [hpb]; exact Nat.le_trans hB1 hb2.size, by rw [hw3, hpb]; simp⟩
 have Hw3 := Lib.hid hw3
 have Hpb2 := Lib.hid hpb
 have Hg0 := Lib.hid hNg
 have HNl := Lib.hid hNl
 have hbx := hmb.box.cells.1
 have hcB : cb < B := by have := HBd.out; omega
 clear hmb hw3 hpb hNg hNl ho hb2 h23 hN0 hB1
 go_upto_region 2 with (fail)
 rw [← Hw3.out, ← Hpb2.out]
 rw [HNl.out] at hbx
 have hNl2 := HNl.out
 go_wp2
 clear hbx hNl2
 go_loopw [15] (fun i wr => ∃ (k : Nat) (ve vi vn : Value) (N : Net) (S : List Nat), k ≤ m ∧ i = .int .i64 k ∧ Mb cb B pb A L c (P + 2) w0 wr ve vi vn N S ∧ Gd (2 * k) M N ∧ N.ends.length = m ∧ B ≤ wr.heap.size) (fun i _ => m - (intOf i).toNat)
 case atStart => exact ⟨0, _, _, _, N0, S0, Nat.zero_le _, rfl, Hmb.out, Hg0.out, HNl.out, by have := Hpb.out; omega⟩
 case round =>
  obtain ⟨k, ve, vi, vn, N, S2, hk, rfl, hm, hgd, hNl, hsz⟩ := hrel
  obtain ⟨A1', c1', rfl, -, hm1', -⟩ := id hm.own.read.1
  obtain ⟨AI', cI', rfl, -, -, -⟩ := id hm.own.read.2.1
  obtain ⟨AN', cN', rfl, -, -, -⟩ := id hm.own.read.2.2
  have Hm := Lib.hid hm
  have Hgd := Lib.hid hgd
  have HNl := Lib.hid hNl
  have Hsz := Lib.hid hsz
  clear hm hgd hNl hsz
  by_cases hlt : k < m
  ·have m4 : IntKind.i64.wrap ((k : Int) + 1) = (k : Int) + 1 := wr64 _ (by omega) (by omega)
   obtain ⟨q, hq⟩ : ∃ q : Nat, q = (k + 1) % m := ⟨_, rfl⟩
   have hqm : q < m := by rw [hq]; exact Nat.mod_lt _ hm0
   have m5 : ((k : Int) + 1).tmod (m : Int) = (q : Int) := by rw [hq, Int.tmod_eq_emod_of_nonneg (by omega)]; simp
   have m6 : ((k : Int) + 1) % (m : Int) = (q : Int) := by rw [hq]; simp
   have m7 : IntKind.i64.wrap (q : Int) = (q : Int) := wr64 _ (by omega) (by omega)
   have m8 : ((m : Int) = 0) = False := by simp; omega
   have m9 : (m = 0) = False := by simp; omega
   have hpc : pb ≠ cb := by have := Hpb.out; omega
   have HS0 := Lib.hid (show wr.cell? ⟨pb, 0, none⟩ = some (.slice A1' m c1') ∧ wr.cell? ⟨pb, 1, none⟩ = some (.slice AI' N.ids.length cI') ∧ wr.cell? ⟨pb, 2, none⟩ = some (.slice AN' N.inputs.length cN') from by obtain ⟨a, b, d, -⟩ := Hm.out.box.cells; rw [HNl.out] at a; exact ⟨a, b, d⟩)
   clear hq
   go_upto_region 5 with (fail)
   refine wp_region_chainS (fun W => W.cell? ⟨pb, 0, none⟩ = some (.slice A1' m c1') ∧ W.cell? ⟨pb, 1, none⟩ = some (.slice AI' N.ids.length cI') ∧ W.cell? ⟨pb, 2, none⟩ = some (.slice AN' N.inputs.length cN')) 9 [false, false, false, false, false, false, false, false, true] (by kernel_rfl) (by kernel_rfl) (show (World.drew wr).cell? ⟨pb, 0, none⟩ = some (.slice A1' m c1') ∧ (World.drew wr).cell? ⟨pb, 1, none⟩ = some (.slice AI' N.ids.length cI') ∧ (World.drew wr).cell? ⟨pb, 2, none⟩ = some (.slice AN' N.inputs.length cN') from HS0.out) ?_
   simp only [selF, selT, List.take_succ_cons, List.take_zero, List.drop_succ_cons, List.drop_zero]
   refine pflowS_val (v := ?_) rfl ?_ ?_; rotate_left; (intro W hW; (obtain ⟨k0, k1, k2⟩ := hW); go_simp; with_reducible rfl)
   simp only [zA]
   refine pflowS_val (v := ?_) rfl ?_ ?_; rotate_left; (intro W hW; (obtain ⟨k0, k1, k2⟩ := hW); go_simp; with_reducible rfl)
   simp only [zA]
   refine pflowS_val (v := ?_) rfl ?_ ?_; rotate_left; (intro W hW; (obtain ⟨k0, k1, k2⟩ := hW); go_simp; with_reducible rfl)
   simp only [zA]
   refine pflowS_val (v := ?_) rfl ?_ ?_; rotate_left; (intro W hW; (obtain ⟨k0, k1, k2⟩ := hW); go_simp; with_reducible rfl)
   simp only [zA]
   refine pflowS_val (v := ?_) rfl ?_ ?_; rotate_left; (intro W hW; (obtain ⟨k0, k1, k2⟩ := hW); go_simp; with_reducible rfl)
   simp only [zA]
   refine pflowS_val (v := ?_) rfl ?_ ?_; rotate_left; (intro W hW; (obtain ⟨k0, k1, k2⟩ := hW); go_simp; with_reducible rfl)
   simp only [zA]
   refine pflowS_val (v := ?_) rfl ?_ ?_; rotate_left; (intro W hW; (obtain ⟨k0, k1, k2⟩ := hW); go_simp; with_reducible rfl)
   simp only [zA]
   refine pflowS_val (v := ?_) rfl ?_ ?_; rotate_left; (intro W hW; (obtain ⟨k0, k1, k2⟩ := hW); go_simp; with_reducible rfl)
   simp only [zA]
   obtain ⟨W, hWd⟩ : ∃ W, W = World.drew wr := ⟨_, rfl⟩
   rw [← hWd]
   have hW := (show (World.drew wr).cell? ⟨pb, 0, none⟩ = some (.slice A1' m c1') ∧ (World.drew wr).cell? ⟨pb, 1, none⟩ = some (.slice AI' N.ids.length cI') ∧ (World.drew wr).cell? ⟨pb, 2, none⟩ = some (.slice AN' N.inputs.length cN') from HS0.out)
   rw [← hWd] at hW
   have HWd := Lib.hid hWd
   clear hWd
   refine Or.inl ⟨rfl, ?_⟩
   go_simp
   (with_reducible refine (neJoin_any _ _ _ N k q W (by rw [HWd.out]; have h9 := (Hm.out.own.keep (since_drew (since_refl _)).below).read; rw [HNl.out] at h9; exact h9) (by rw [HNl.out]; exact hlt) (by rw [HNl.out]; exact hqm) ((Hgd.out.mono (R' := 80) (M' := 40) (by omega) hM).small (by omega) (by omega))).mono ?_)
   rintro e W' ⟨ve2, vi2, vn2, S3, rfl, ho2, hb2⟩
   refine ⟨_, rfl, And.intro (bc hb2 hW.1) (And.intro (bc hb2 hW.2.1) (bc hb2 hW.2.2)), ?_⟩
   replace hW := And.intro (bc hb2 hW.1) (And.intro (bc hb2 hW.2.1) (bc hb2 hW.2.2))
   have hS1 : Since wr W := (by rw [HWd.out]; exact since_drew (since_refl _))
   have hS2 := hS1.after hb2
   have Hlw : Hid (pb < W.heap.size) := Nat.lt_of_lt_of_le Hm.out.box.lt hS1.below.size
   clear hS1
   (try simp only [zA])
   simp only [TFlow]
   obtain ⟨D0, d0, rfl, -, -, -⟩ := id ho2.read.1
   obtain ⟨D1, d1, rfl, -, -, -⟩ := id ho2.read.2.1
   obtain ⟨D2, d2, rfl, -, -, -⟩ := id ho2.read.2.2
   have hma := Hm.out.assign (CB.of hS2) (Hm.out.cur.since hS2) ho2 Hlw.out hcB Hpb.out.1 Hsz.out
   obtain ⟨-, -, -, f0, f1, f2⟩ := (Hm.out.box.below hS2 Hm.out.box.lt).cells
   obtain ⟨k0, k1, k2⟩ := hW
   have Hma := Lib.hid hma
   have hsz4 : B ≤ (set3 W' pb (.slice D0 (joinN N k q).ends.length d0) (.slice D1 (joinN N k q).ids.length d1) (.slice D2 (joinN N k q).inputs.length d2)).heap.size := by rw [set3_size]; exact Nat.le_trans Hsz.out hS2.below.size
   have Hsz4 := Lib.hid hsz4
   have Hg2 := Lib.hid (Hgd.out.join (v := k) (u := q) (by rw [HNl.out]; exact hlt) (by rw [HNl.out]; exact hqm))
   have Hl2 := Lib.hid ((join_len N k q).trans HNl.out)
   clear hma ho2 hb2 hS2 hsz4
   go_wp2
   go_roundw
   case rel => exact ⟨k + 1, _, _, _, joinN N k q, S3, by omega, by first | rfl | go_num, Hma.out, Hg2.out.mono (by omega) (Nat.le_refl _), Hl2.out, Hsz4.out⟩
   case measure => simp [intOf]; omega
  ·obtain rfl : k = m := by omega
   obtain ⟨wo, rfl⟩ : ∃ z, z = wr := ⟨_, rfl⟩
   have hcu := Hm.out.cur
   have Hcu := Lib.hid hcu
   clear hcu
   go_wp2_with fail
   refine (one_p cb A L c (P + 2) 2 wo Hcu.out (by omega) (by omega)).mono ?_
   rintro e w5 ⟨b, rfl, hcu2, hC2⟩
   have Hm2 := Lib.hid (Hm.out.seen hC2 hcu2 hcB Hpb.out.1 Hsz.out)
   have Hsz2 : Hid (B ≤ w5.heap.size) := Nat.le_trans Hsz.out hC2.size
   have Hg80 : Hid (Gd 80 M N) := Hgd.out.mono (by omega) (Nat.le_refl _)
   clear hcu2 hC2
   obtain ⟨k0, k1, k2, -, -, -⟩ := Hm2.out.box.cells
   have hrw := Hm2.out.far.blkN Hrb.out (by have := HBd.out; omega) (by omega)
   obtain ⟨-, -, -, f0, f1, f2⟩ := hrw.box.cells
   obtain ⟨e0, e1, e2, -, -, -⟩ := hrw.box.cells
   clear hrw
   cases b
   ·clear f0 f1 f2 e0 e1 e2
    go_wp2_with fail
    refine (mixed_p cb A L c (P + 2 + 2) B 80 M _ _ _ N S2 w5 Hm2.out.cur (by omega) Hm2.out.own hcB Hsz2.out Hg80.out (by omega) (by omega) (by have := HNl.out; omega)).mono ?_
    rintro e w6 ⟨ve6, vi6, vn6, N6, S6, rfl, ho6, ⟨hsh6, hg6⟩, hcu6, hC6⟩
    obtain ⟨D0, d0, rfl, -, -, -⟩ := id ho6.read.1
    obtain ⟨D1, d1, rfl, -, -, -⟩ := id ho6.read.2.1
    obtain ⟨D2, d2, rfl, -, -, -⟩ := id ho6.read.2.2
    have hfar := (Hm2.out.far.mono (Nat.le_refl B)).trans hC6
    have hrw := hfar.blkN Hrb.out (by have := HBd.out; omega) (by omega)
    obtain ⟨e0, e1, e2, f0, f1, f2⟩ := hrw.box.cells
    have hown := ho6
    rw [HBd.out] at hown hfar
    have Hret := Lib.hid (ret_net Hs0.out hown hcu6 hfar hcb)
    have Hsh6 := Lib.hid hsh6
    have Hg6 := Lib.hid hg6
    clear hfar hrw hown hsh6 hg6 hcu6 hC6 ho6 k0 k1 k2
    go_wp2
    refine bodyPost_ret (v := .agg #[.slice D0 N6.ends.length d0, .slice D1 N6.ids.length d1, .slice D2 N6.inputs.length d2]) (by simp [results, Tryz.results190, go_sem, *]) rfl ?_
    obtain ⟨r1, r2, r3⟩ := Hret.out
    exact ⟨_, _, _, N6, S6, rfl, r1, ⟨Hg6.out.mono (by omega) (Nat.le_refl _), by have := HNl.out; have := Hsh6.out.len; omega⟩, r2.mono (by omega), r3⟩
   ·go_wp2
    refine bodyPost_ret (v := .agg #[.slice A1' N.ends.length c1', .slice AI' N.ids.length cI', .slice AN' N.inputs.length cN']) (by simp [results, Tryz.results190, go_sem, *]) rfl ?_
    have hown := Hm2.out.own
    rw [HBd.out] at hown
    have hfar := Hm2.out.far
    rw [HBd.out] at hfar
    obtain ⟨r1, r2, r3⟩ := ret_net Hs0.out hown Hm2.out.cur hfar hcb
    exact ⟨_, _, _, N, S2, rfl, r1, ⟨Hg80.out.mono (by omega) (Nat.le_refl _), by have := HNl.out; omega⟩, r2.mono (by omega), r3⟩
end Go.Proofs.YtgmdpppljkmabaaGreat
namespace Go.Proofs.YtgmdpppljkmabaaGreat
open Go Go.RowKit
/-! tree: the drawing ends, plain facts -/
theorem itr_zero (f : Nat → Nat) (x : Nat) : itr f 0 x = x := rfl
theorem ex_least (Q : Nat → Prop) : ∀ t, Q t → ∃ m, Q m ∧ m ≤ t ∧ ∀ k, k < m → ¬ Q k
 | t, h => by
  rcases Classical.em (∃ k, k < t ∧ Q k) with ⟨k, hk, hq⟩ | hn
  ·obtain ⟨m, h1, h2, h3⟩ := ex_least Q k hq
   exact ⟨m, h1, by omega, h3⟩
  ·exact ⟨t, h, Nat.le_refl _, fun k hk hq => hn ⟨k, hk, hq⟩⟩
termination_by t => t
open Classical in
noncomputable def lst (Q : Nat → Prop) : Nat := if h : ∃ m, Q m ∧ ∀ k, k < m → ¬ Q k then Classical.choose h else 0
theorem lst_spec {Q : Nat → Prop} {t : Nat} (h : Q t) : Q (lst Q) ∧ lst Q ≤ t := by
 obtain ⟨m, h1, h2, h3⟩ := ex_least Q t h
 have he : ∃ m, Q m ∧ ∀ k, k < m → ¬ Q k := ⟨m, h1, h3⟩
 unfold lst
 rw [dif_pos he]
 obtain ⟨h4, h5⟩ := Classical.choose_spec he
 refine ⟨h4, ?_⟩
 rcases Nat.lt_or_ge t (Classical.choose he) with hl | hl
 ·exact absurd h (h5 t hl)
 ·exact hl
def hitT (v t0 s t : Nat) : Prop := byteOf (itr (fun s => nx s 0) t (nx s 0)) % v = t0
open Classical in
noncomputable def fuelT (L v t0 p s : Nat) : Nat := if p < L then (L - p) + 281474976710656 + 1 else lst (hitT v t0 s)
theorem hit_zero {v t0 s : Nat} (h : hitT v t0 s 0) : byteOf (nx s 0) % v = t0 := by
 unfold hitT at h
 rw [itr_zero] at h
 exact h
theorem fuel_lt {L v t0 p s : Nat} (h : p < L) : fuelT L v t0 p s = (L - p) + 281474976710656 + 1 := if_pos h
theorem fuel_ge {L v t0 p s : Nat} (h : L ≤ p) : fuelT L v t0 p s = lst (hitT v t0 s) := if_neg (by omega)
theorem hit_ex {v t0 : Nat} (s : Nat) (hv : v ≤ 200) (ht : t0 < v) : ∃ t, t < 281474976710656 ∧ hitT v t0 s t := by
 obtain ⟨t, h1, h2⟩ := nx_reach (nx s 0) t0 (nx_lt _ _) (by omega)
 exact ⟨t, h1, by unfold hitT; rw [h2, Nat.mod_eq_of_lt ht]⟩
theorem fuel_le {L v t0 : Nat} (p s : Nat) (hL : L ≤ 1048576) (hv : v ≤ 200) (ht : t0 < v) : fuelT L v t0 p s ≤ 281474977759233 := by
 rcases Nat.lt_or_ge p L with hp | hp
 ·rw [fuel_lt hp]; omega
 ·rw [fuel_ge hp]
  obtain ⟨t, h1, h2⟩ := hit_ex s hv ht
  have h3 := (lst_spec h2).2
  generalize lst (hitT v t0 s) = m at *
  omega
theorem fuel_step {L v t0 p s s' x : Nat} (hL : L ≤ 1048576) (hv : v ≤ 200) (ht : t0 < v) (hx : x ≠ t0) (h : L ≤ p → s' = nx s 0 ∧ x = byteOf s' % v) : fuelT L v t0 (p + 1) s' < fuelT L v t0 p s := by
 have hle : lst (hitT v t0 s') < 281474976710656 := by
  obtain ⟨t, h1, h2⟩ := hit_ex s' hv ht
  have h3 := (lst_spec h2).2
  generalize lst (hitT v t0 s') = m at *
  omega
 rcases Nat.lt_or_ge p L with hp | hp
 ·rw [fuel_lt hp]
  rcases Nat.lt_or_ge (p + 1) L with h2 | h2
  ·rw [fuel_lt h2]; omega
  ·rw [fuel_ge h2]
   generalize lst (hitT v t0 s') = m at *
   omega
 ·rw [fuel_ge hp, fuel_ge (by omega)]
  obtain ⟨hs, hxe⟩ := h hp
  rw [hs] at hxe hle ⊢
  clear hs
  obtain ⟨t, h1, h2⟩ := hit_ex s hv ht
  obtain ⟨h3, h4⟩ := lst_spec h2
  generalize lst (hitT v t0 s) = m at *
  cases m with
  | zero =>
   exfalso
   exact hx (hxe.trans (hit_zero h3))
  | succ m =>
   have h5 : hitT v t0 (nx s 0) m := by
    unfold hitT at h3 ⊢
    rw [itr_succ] at h3
    exact h3
   have h6 := (lst_spec h5).2
   generalize lst (hitT v t0 (nx s 0)) = q at *
   omega
def totTo (N : Net) : Nat → Nat
 | 0 => 0
 | k + 1 => totTo N k + (rowN N k).length
theorem tot_ex {N : Net} : ∀ v, totTo N v < 4 * v → ∃ t, t < v ∧ (rowN N t).length < 4
 | 0, h => by simp at h
 | v + 1, h => by
  by_cases h1 : (rowN N v).length < 4
  ·exact ⟨v, by omega, h1⟩
  ·obtain ⟨t, h2, h3⟩ := tot_ex (N := N) v (by simp only [totTo] at h; omega)
   exact ⟨t, by omega, h3⟩
theorem tot_join {N : Net} {u v : Nat} (hu : u < N.ends.length) (hv : v < N.ends.length) : ∀ k, k ≤ v → totTo (joinN N u v) k = totTo N k + (if u < k then 1 else 0)
 | 0, _ => by simp [totTo]
 | k + 1, hk => by
  simp only [totTo]
  rw [tot_join hu hv k (by omega), row_join hu hv]
  have h1 : k ≠ v := by omega
  rw [if_neg h1]
  by_cases h2 : k = u
  ·subst h2; simp; omega
  ·rw [if_neg h2]
   by_cases h3 : u < k
   ·rw [if_pos h3, if_pos (by omega)]; omega
   ·rw [if_neg h3, if_neg (by omega)]; omega
structure Grow (M v : Nat) (N : Net) : Prop where
 gd : Gd 4 M N
 tot : totTo N v + 2 = 2 * v
 zero : ∀ k, v ≤ k → (rowN N k).length = 0
theorem Grow.low {M v : Nat} {N : Net} (h : Grow M v N) (hv : 1 ≤ v) : ∃ t, t < v ∧ (rowN N t).length < 4 := tot_ex v (by have := h.tot; omega)
theorem Grow.step {M v u : Nat} {N : Net} (h : Grow M v N) (hu : u < v) (hv : v < N.ends.length) (hr : (rowN N u).length < 4) : Grow M (v + 1) (joinN N u v) := by
 have hul : u < N.ends.length := by omega
 refine ⟨⟨by rw [join_len]; exact h.gd.ends, fun k es hk => ?_, h.gd.ids, by rw [join_len]; exact h.gd.inputs, wf_join h.gd.wf hul hv⟩, ?_, fun k hk => ?_⟩
 ·have h1 := row_of hk
  have hkl : k < N.ends.length := by have := lt_of_get hk; rwa [join_len] at this
  rw [← h1, row_join hul hv]
  have h2 := h.gd.row k _ (rowN_get hkl)
  by_cases a : k = v
  ·subst a
   have := h.zero k (Nat.le_refl _)
   rw [if_pos rfl, if_neg (by omega)]; omega
  ·rw [if_neg a]
   by_cases b : k = u
   ·subst b; rw [if_pos rfl]; omega
   ·rw [if_neg b]; omega
 ·simp only [totTo]
  rw [tot_join hul hv v (Nat.le_refl _), if_pos hu, row_join hul hv, if_pos rfl, if_neg (by omega), h.zero v (Nat.le_refl _)]
  have := h.tot
  omega
 ·rw [row_join hul hv, if_neg (by omega), if_neg (by omega), h.zero k (by omega)]
theorem Grow.empty {M m : Nat} (hm : m ≤ M) : Grow M 1 (emptyNet m) := by
 have hz : ∀ k, (rowN (emptyNet m) k).length = 0 := fun k => by
  unfold rowN emptyNet
  simp only [List.getD_eq_getElem?_getD, List.getElem?_replicate]
  split <;> simp
 exact ⟨(Gd.empty hm).mono (by omega) (Nat.le_refl _), by simp [totTo, hz], fun k _ => hz k⟩
def pOf (cb : Nat) (W : World) : Nat := (intOf ((W.cell? ⟨cb, 1, none⟩).getD undef)).toNat
def sOf (cb : Nat) (W : World) : Nat := (intOf ((W.cell? ⟨cb, 2, none⟩).getD undef)).toNat
theorem Cur.pOf {W : World} {cb : Nat} {A : Option Addr} {L c p s : Nat} (h : Cur W cb A L c p s) : pOf cb W = p ∧ sOf cb W = s := by
 obtain ⟨-, h1, h2⟩ := h.cellsOf
 unfold Go.Proofs.YtgmdpppljkmabaaGreat.pOf sOf
 rw [h1, h2]
 simp [intOf]
open Classical in
noncomputable def treeM (L v t0 cb : Nat) (x : Value) (W : World) : Nat := if intOf x = (t0 : Int) then 0 else 1 + fuelT L v t0 (pOf cb W) (sOf cb W)
theorem treeM_eq {L v t0 cb : Nat} {x : Value} {W : World} (h : intOf x = (t0 : Int)) : treeM L v t0 cb x W = 0 := if_pos h
theorem treeM_ne {L v t0 cb : Nat} {x : Value} {W : World} (h : ¬ intOf x = (t0 : Int)) : treeM L v t0 cb x W = 1 + fuelT L v t0 (pOf cb W) (sOf cb W) := if_neg h
end Go.Proofs.YtgmdpppljkmabaaGreat
namespace Go.Proofs.YtgmdpppljkmabaaGreat
open Go Go.RowKit
/-! tree -/
set_option maxRecDepth 100000 in
set_option maxHeartbeats 8000000 in
theorem tree_p (cb : Nat) (A : Option Addr) (L c P most M : Nat) (w : World) (hc : CurP w cb A L c P) (hP : P ≤ 4400000000000000000) (hmo : 1 ≤ most) (hmo2 : most ≤ M) (hM : M ≤ 40) :
  Calls Tryz.prog 93 #[.pointer (some ⟨cb, 0, none⟩), .int .i64 most] w (NewD cb w.heap.size A L c (P + 72057594037927936) w (TN 100 M)) := by
 have hcb := hc.lt
 obtain ⟨B, hBd⟩ : ∃ z, z = w.heap.size + 1 := ⟨_, rfl⟩
 obtain ⟨w0, hw0⟩ : ∃ z, z = w.alloc (.cells #[.slice none 0 0, .slice none 0 0, .slice none 0 0] 27) := ⟨_, rfl⟩
 have hs0 : Since w w0 := by rw [hw0]; exact since_alloc _ (since_refl _)
 have hz0 : w0.heap.size = B := by rw [hw0, hBd]; simp
 have hrb : BoxN w0 w.heap.size (.slice none 0 0) (.slice none 0 0) (.slice none 0 0) := by
  rw [hw0]
  show (w.heap.push _)[w.heap.size]? = _
  rw [Array.getElem?_push_size]
 have Hrb := Lib.hid hrb
 have Hs0 := Lib.hid hs0
 have Hw0 := Lib.hid hw0
 have HBd := Lib.hid hBd
 have Hz0 := Lib.hid hz0
 have Hc0 := Lib.hid (hc.since hs0)
 clear hrb hs0 hw0 hc hBd hz0
 go_enter Tryz.func93, Tryz.ntmps93
 go_upto_region 1 with (fail)
 rw [← Hw0.out]
 go_wp2_with fail
 refine (pick_p cb A L c P most w0 Hc0.out (by omega) (by omega)).mono ?_
 rintro e w1 ⟨x, rfl, hx, hcu1, hC1⟩
 obtain ⟨m, hm⟩ : ∃ m : Nat, m = x + 1 := ⟨_, rfl⟩
 have m1 : IntKind.i64.wrap (1 + (x : Int)) = (m : Int) := by rw [wr64 _ (by omega) (by omega)]; omega
 have hmM : m ≤ M := by omega
 have hm0 : 0 < m := by omega
 have Hcu1 := Lib.hid hcu1
 have HC1 := Lib.hid hC1
 clear hcu1 hC1 hx
 clear hm
 go_wp2_with fail
 refine (neEmpty_any m (by omega) w1).mono ?_
 rintro e w2 ⟨ve0, vi0, vn0, S0, rfl, ho, hb2⟩
 obtain ⟨N0, hN0⟩ : ∃ z, z = emptyNet m := ⟨_, rfl⟩
 rw [← hN0] at ho
 have hNl : N0.ends.length = m := by rw [hN0]; simp [emptyNet]
 have hNg : Grow M 1 N0 := by rw [hN0]; exact Grow.empty hmM
 obtain ⟨A1, c1, rfl, -, hm1, -⟩ := id ho.read.1
 obtain ⟨AI, cI, rfl, -, -, -⟩ := id ho.read.2.1
 obtain ⟨AN, cN, rfl, -, -, -⟩ := id ho.read.2.2
 obtain ⟨w3, hw3⟩ : ∃ z, z = w2.alloc (.cells #[.slice A1 N0.ends.length c1, .slice AI N0.ids.length cI, .slice AN N0.inputs.length cN] 27) := ⟨_, rfl⟩
 obtain ⟨pb, hpb⟩ : ∃ z, z = w2.heap.size := ⟨_, rfl⟩
 have h23 : Since w2 w3 := by rw [hw3]; exact since_alloc _ (since_refl _)
 have hB1 : B ≤ w1.heap.size := by rw [← Hz0.out]; exact HC1.out.size
 have hmb : Mb cb B pb A L c (P + 2) w0 w3 (.slice A1 N0.ends.length c1) (.slice AI N0.ids.length cI) (.slice AN N0.inputs.length cN) N0 S0 :=
  ⟨(ho.keep h23.below).mono hB1, by rw [hw3, hpb]; exact Box3.new _ _ _ _ _, fun hj => by have := (ho.range _ hj).2; omega, (Hcu1.out.since hb2).since h23, (HC1.out.mono (by have := Hz0.out; omega)).trans ((CB.of (Below.trans hb2 (h23.below.mono hb2.size))).mono hB1)⟩
 have Hmb := Lib.hid hmb
 have Hpb : Hid (B ≤ pb ∧ pb < w3.heap.size) := ⟨by rw [hpb]; exact Nat.le_trans hB1 hb2.size, by rw [hw3, hpb]; simp⟩
 have Hw3 := Lib.hid hw3
 have Hpb2 := Lib.hid hpb
 have Hg0 := Lib.hid hNg
 have HNl := Lib.hid hNl
 have hbx := hmb.box.cells.1
 have hcB : cb < B := by have := HBd.out; omega
 clear hmb hw3 hpb hNg hNl ho hb2 h23 hN0 hB1
 go_upto_region 3 with (fail)
 rw [← Hw3.out, ← Hpb2.out]
 clear hbx
 go_loopw [6] (fun i wr => ∃ (v : Nat) (ve vi vn : Value) (N : Net) (S : List Nat), 1 ≤ v ∧ v ≤ m ∧ i = .int .i64 v ∧ Mb cb B pb A L c (P + 2 + v * 1125899906842624) w0 wr ve vi vn N S ∧ Grow M v N ∧ N.ends.length = m ∧ B ≤ wr.heap.size) (fun i _ => m - (intOf i).toNat)
 case atStart => exact ⟨1, _, _, _, N0, S0, Nat.le_refl _, hm0, rfl, ⟨Hmb.out.own, Hmb.out.box, Hmb.out.nb, Hmb.out.cur.mono (by omega), Hmb.out.far⟩, Hg0.out, HNl.out, by have := Hpb.out; omega⟩
 case round =>
  obtain ⟨v, ve, vi, vn, N, S2, hv1, hk, rfl, hm, hgd, hNl, hsz⟩ := hrel
  obtain ⟨A1', c1', rfl, -, hm1', -⟩ := id hm.own.read.1
  obtain ⟨AI', cI', rfl, -, -, -⟩ := id hm.own.read.2.1
  obtain ⟨AN', cN', rfl, -, -, -⟩ := id hm.own.read.2.2
  obtain ⟨g, rfl, -⟩ := hm.own.head (by omega)
  have Hm := Lib.hid hm
  have Hgd := Lib.hid hgd
  have HNl := Lib.hid hNl
  have Hsz := Lib.hid hsz
  have hpc : pb ≠ cb := by have := Hpb.out; omega
  have hx0 : wr.cell? ⟨pb, 0, none⟩ = some (.slice (some ⟨g, 0, none⟩) m c1') := by have := Hm.out.box.cells.1; rwa [HNl.out] at this
  clear hm hgd hNl hsz
  obtain ⟨wo, rfl⟩ : ∃ z, z = wr := ⟨_, rfl⟩
  by_cases hlt : v < m
  ·have m4 : IntKind.i64.wrap ((v : Int) + 1) = (v : Int) + 1 := wr64 _ (by omega) (by omega)
   obtain ⟨t0, ht0, htr⟩ := Hgd.out.low hv1
   have Htr := Lib.hid htr
   clear htr
   obtain ⟨Q, hQ⟩ : ∃ z, z = P + 2 + v * 1125899906842624 := ⟨_, rfl⟩
   have HQ : Hid (Q = P + 2 + v * 1125899906842624) := hQ
   have HQ2 : Hid (Q ≤ 4500000000000000000) := by show _ ≤ _; omega
   rw [← hQ] at Hm
   clear hQ
   obtain ⟨p0, s0, hc0, hp0⟩ := Hm.out.cur
   have Hc9 := Lib.hid hc0
   have Hp0 := Lib.hid hp0
   have hLs := hc0.len
   clear hc0 hp0
   go_wp2_with fail
   refine (pick_any cb A L c p0 s0 v wo Hc9.out (by have := HQ2.out; have := Hp0.out; omega) (by omega)).mono ?_
   rintro e w5 ⟨u0, p1, s1, rfl, hu0, hp1, hp2, hc1, -, hC1⟩
   have hx1 := seen_cell hx0 hpc w5 hC1
   have Hm5 := Lib.hid (Hm.out.seen (P' := Q + 2) hC1 ⟨p1, s1, hc1, by have := Hp0.out; omega⟩ hcB Hpb.out.1 Hsz.out)
   have Hsz5 : Hid (B ≤ w5.heap.size) := Nat.le_trans Hsz.out hC1.size
   have Hc1 := Lib.hid hc1
   have Hp1 : Hid (p1 ≤ Q + 2) := by show _ ≤ _; have := Hp0.out; omega
   clear hC1 hc1 hx0 hp1 hp2
   go_upto_region 6 with (fail)
   clear hx1
   go_loopw [7] (fun x wr => ∃ (u p s : Nat), x = .int .i64 u ∧ u < v ∧ Cur wr cb A L c p s ∧ p ≤ Q + 281474977759236 ∧ (u ≠ t0 → p + fuelT L v t0 p s ≤ Q + 281474977759235) ∧ Mb cb B pb A L c (Q + 281474977759236) w0 wr (.slice (some ⟨g, 0, none⟩) N.ends.length c1') (.slice AI' N.ids.length cI') (.slice AN' N.inputs.length cN') N S2 ∧ B ≤ wr.heap.size) (fun x wr => treeM L v t0 cb x wr)
   case atStart =>
    refine ⟨u0, p1, s1, rfl, by omega, Hc1.out, by have := Hp1.out; omega, fun _ => ?_, ⟨Hm5.out.own, Hm5.out.box, Hm5.out.nb, Hm5.out.cur.mono (by omega), Hm5.out.far⟩, Hsz5.out⟩
    have h1 := fuel_le (L := L) (v := v) (t0 := t0) p1 s1 hLs (by omega) ht0
    have h2 := Hp1.out
    omega
   case round =>
    obtain ⟨u, p, s, rfl, huv, hcq, hpq, hfu, hmq, hsq⟩ := hrel
    have Hpq := Lib.hid hpq
    clear hpq
    have Hcq := Lib.hid hcq
    have Hfu := Lib.hid hfu
    have Hmq := Lib.hid hmq
    have Hsq := Lib.hid hsq
    clear hcq hfu hsq
    obtain ⟨xu, hxe⟩ : ∃ z, z = rowN N u := ⟨_, rfl⟩
    have hxu := rowN_get (n := N) (v := u) (by have := HNl.out; omega)
    rw [← hxe] at hxu
    obtain ⟨uu, T, hcu, -, hR, -, -, hgS⟩ := hmq.own.rowCell hxu
    obtain ⟨AU, cU, rfl, -, -, -⟩ := id hR.read
    have hx1 : wr.cell? ⟨pb, 0, none⟩ = some (.slice (some ⟨g, 0, none⟩) m c1') := by have := hmq.box.cells.1; rwa [HNl.out] at this
    have Hxe := Lib.hid hxe
    have hum : u < m := by omega
    clear hmq hR hxe hxu hgS
    by_cases h4 : 4 ≤ xu.length
    ·have hut : u ≠ t0 := fun e => by have h5 := Htr.out; rw [← e, ← Hxe.out] at h5; omega
     have hv2 : 2 ≤ v := by omega
     have e4 : ((4 : Int) ≤ (xu.length : Int)) = True := by simp; omega
     go_wp2_with fail
     refine (pick_any cb A L c p s v wr Hcq.out (by have := HQ2.out; have := Hpq.out; omega) (by omega)).mono ?_
     rintro e w6 ⟨x, p', s', rfl, hx, hp1', hp2', hc6, hl6, hC6⟩
     obtain ⟨rfl, hl7⟩ := hl6 hv2 (by omega)
     have Hl7 := Lib.hid hl7
     have Hc6 := Lib.hid hc6
     have HC6 := Lib.hid hC6
     clear hl6 hl7 hc6 hC6 hx1 hcu
     go_wp2
     go_roundw
     case rel =>
      have h3 := Hfu.out hut
      have h4 : p + 1 ≤ Q + 281474977759236 := by omega
      refine ⟨x, p + 1, s', rfl, by omega, Hc6.out, h4, fun hxt => ?_, Hmq.out.seen HC6.out ⟨p + 1, s', Hc6.out, h4⟩ hcB Hpb.out.1 Hsq.out, Nat.le_trans Hsq.out HC6.out.size⟩
      have h2 := fuel_step (L := L) (v := v) (t0 := t0) (p := p) (s := s) (s' := s') (x := x) hLs (by omega) ht0 hxt Hl7.out
      omega
     case measure =>
      obtain ⟨q1, q2⟩ := Hcq.out.pOf
      obtain ⟨q3, q4⟩ := Hc6.out.pOf
      rw [treeM_ne (x := .int .i64 (u : Int)) (show ¬ ((u : Int) = (t0 : Int)) by omega), q1, q2]
      by_cases hxt : x = t0
      ·rw [treeM_eq (x := .int .i64 (x : Int)) (show (x : Int) = (t0 : Int) by omega)]; omega
      ·rw [treeM_ne (x := .int .i64 (x : Int)) (show ¬ ((x : Int) = (t0 : Int)) by omega), q3, q4]
       have h2 := fuel_step (L := L) (v := v) (t0 := t0) (p := p) (s := s) (s' := s') (x := x) hLs (by omega) ht0 hxt Hl7.out
       omega
    ·have e4 : ((4 : Int) ≤ (xu.length : Int)) = False := by simp; omega
     have Hlow : Hid ((rowN N u).length < 4) := by show _ < _; rw [← Hxe.out]; omega
     go_upto_region 8 with (fail)
     clear hx1 hcu
     obtain ⟨k0, k1, k2, f0, f1, f2⟩ := Hmq.out.box.cells
     obtain ⟨wq, rfl⟩ : ∃ z, z = wr := ⟨_, rfl⟩
     clear f0 f1 f2
     go_wp2_with fail
     refine (neJoin_any _ _ _ N u v wq Hmq.out.own.read (by rw [HNl.out]; exact hum) (by rw [HNl.out]; exact hlt) ((Hgd.out.gd.mono (R' := 80) (M' := 40) (by omega) hM).small (by omega) (by omega))).mono ?_
     rintro e w8 ⟨ve2, vi2, vn2, S3, rfl, ho2, hb2⟩
     have hs8 : Since wq w8 := hb2
     obtain ⟨D0, d0, rfl, -, -, -⟩ := id ho2.read.1
     obtain ⟨D1, d1, rfl, -, -, -⟩ := id ho2.read.2.1
     obtain ⟨D2, d2, rfl, -, -, -⟩ := id ho2.read.2.2
     have hma := Hmq.out.assign (CB.of hs8) (Hmq.out.cur.since hs8) ho2 Hmq.out.box.lt hcB Hpb.out.1 Hsq.out
     obtain ⟨k0, k1, k2, f0, f1, f2⟩ := (Hmq.out.box.below hs8 Hmq.out.box.lt).cells
     have Hma := Lib.hid hma
     have hsz4 : B ≤ (set3 w8 pb (.slice D0 (joinN N u v).ends.length d0) (.slice D1 (joinN N u v).ids.length d1) (.slice D2 (joinN N u v).inputs.length d2)).heap.size := by rw [set3_size]; exact Nat.le_trans Hsq.out hs8.below.size
     have Hsz4 := Lib.hid hsz4
     have Hg2 := Lib.hid (Hgd.out.step huv (by rw [HNl.out]; exact hlt) Hlow.out)
     have Hl2 := Lib.hid ((join_len N u v).trans HNl.out)
     clear hma ho2 hb2 hs8 hsz4
     go_wp2
     go_roundw
     case rel => exact ⟨v + 1, _, _, _, joinN N u v, S3, by omega, by omega, by first | rfl | go_num, ⟨Hma.out.own, Hma.out.box, Hma.out.nb, Hma.out.cur.mono (by have := HQ.out; omega), Hma.out.far⟩, Hg2.out, Hl2.out, Hsz4.out⟩
     case measure => simp [intOf]; omega
  ·obtain rfl : v = m := by omega
   clear hx0
   obtain ⟨k0, k1, k2, -, -, -⟩ := Hm.out.box.cells
   have hNN : (N.ends.length : Int) = (v : Int) := by rw [HNl.out]
   have Hg80 : Hid (Gd 80 M N) := Hgd.out.gd.mono (by omega) (Nat.le_refl _)
   have Hm2 := Hm
   have Hsz2 := Hsz
   obtain ⟨w5, rfl⟩ : ∃ z, z = wo := ⟨_, rfl⟩
   go_upto_region 9 with (fail)
   clear hNN
   go_wp2_with fail
   refine (mixed_p cb A L c _ B 80 M _ _ _ N S2 w5 Hm2.out.cur (by omega) Hm2.out.own hcB Hsz2.out Hg80.out (by omega) (by omega) (by have := HNl.out; omega)).mono ?_
   rintro e w6 ⟨ve6, vi6, vn6, N6, S6, rfl, ho6, ⟨hsh6, hg6⟩, hcu6, hC6⟩
   obtain ⟨D0, d0, rfl, -, -, -⟩ := id ho6.read.1
   obtain ⟨D1, d1, rfl, -, -, -⟩ := id ho6.read.2.1
   obtain ⟨D2, d2, rfl, -, -, -⟩ := id ho6.read.2.2
   have hfar := (Hm2.out.far.mono (Nat.le_refl B)).trans hC6
   have hrw := hfar.blkN Hrb.out (by have := HBd.out; omega) (by omega)
   obtain ⟨e0, e1, e2, f0, f1, f2⟩ := hrw.box.cells
   have hown := ho6
   rw [HBd.out] at hown hfar
   have Hret := Lib.hid (ret_net Hs0.out hown hcu6 hfar hcb)
   have Hsh6 := Lib.hid hsh6
   have Hg6 := Lib.hid hg6
   clear hfar hrw hown hsh6 hg6 hcu6 hC6 ho6 k0 k1 k2
   go_wp2
   refine bodyPost_ret (v := .agg #[.slice D0 N6.ends.length d0, .slice D1 N6.ids.length d1, .slice D2 N6.inputs.length d2]) (by simp [results, Tryz.results93, go_sem, *]) rfl ?_
   obtain ⟨r1, r2, r3⟩ := Hret.out
   exact ⟨_, _, _, N6, S6, rfl, r1, ⟨Hg6.out.mono (by omega) (Nat.le_refl _), by have := HNl.out; have := Hsh6.out.len; omega⟩, r2.mono (by omega), r3⟩
end Go.Proofs.YtgmdpppljkmabaaGreat
namespace Go.Proofs.YtgmdpppljkmabaaGreat
open Go Go.RowKit
/-! simple -/
theorem Gd.joinLow {R M : Nat} {n : Net} {v u : Nat} (h : Gd R M n) (hv : v < n.ends.length) (hu : u < n.ends.length) (hvu : v ≠ u) (h1 : (rowN n v).length < 5) (h2 : (rowN n u).length < 5) (hR : 5 ≤ R) : Gd R M (joinN n v u) := by
 refine ⟨by rw [join_len]; exact h.ends, fun k es hk => ?_, h.ids, by rw [join_len]; exact h.inputs, wf_join h.wf hv hu⟩
 have h3 := row_of hk
 have hkl : k < n.ends.length := by have := lt_of_get hk; rwa [join_len] at this
 rw [← h3, row_join hv hu]
 have h4 := h.row k _ (rowN_get hkl)
 by_cases a : k = u
 ·subst a
  rw [if_pos rfl, if_neg (Ne.symm hvu)]; omega
 ·rw [if_neg a]
  by_cases b : k = v
  ·subst b; rw [if_pos rfl]; omega
  ·rw [if_neg b]; omega
set_option maxRecDepth 100000 in
set_option maxHeartbeats 8000000 in
theorem simple_p (cb : Nat) (A : Option Addr) (L c P most M : Nat) (w : World) (hc : CurP w cb A L c P) (hP : P ≤ 4300000000000000000) (hmo : 1 ≤ most) (hmo2 : most ≤ M) (hM : M ≤ 40) :
  Calls Tryz.prog 191 #[.pointer (some ⟨cb, 0, none⟩), .int .i64 most] w (NewD cb w.heap.size A L c (P + 80000000000000000) w (TN 100 M)) := by
 have hcb := hc.lt
 obtain ⟨B, hBd⟩ : ∃ z, z = w.heap.size + 1 := ⟨_, rfl⟩
 obtain ⟨w0, hw0⟩ : ∃ z, z = w.alloc (.cells #[.slice none 0 0, .slice none 0 0, .slice none 0 0] 27) := ⟨_, rfl⟩
 have hs0 : Since w w0 := by rw [hw0]; exact since_alloc _ (since_refl _)
 have hz0 : w0.heap.size = B := by rw [hw0, hBd]; simp
 have hrb : BoxN w0 w.heap.size (.slice none 0 0) (.slice none 0 0) (.slice none 0 0) := by
  rw [hw0]
  show (w.heap.push _)[w.heap.size]? = _
  rw [Array.getElem?_push_size]
 have Hrb := Lib.hid hrb
 have Hs0 := Lib.hid hs0
 have Hw0 := Lib.hid hw0
 have HBd := Lib.hid hBd
 have Hz0 := Lib.hid hz0
 have Hc0 := Lib.hid (hc.since hs0)
 clear hrb hs0 hw0 hc hBd hz0
 go_enter Tryz.func191, Tryz.ntmps191
 go_upto_region 1 with (fail)
 rw [← Hw0.out]
 go_wp2_with fail
 refine (tree_p cb A L c P most M w0 Hc0.out (by omega) hmo hmo2 hM).mono ?_
 rintro e w1 ⟨ve0, vi0, vn0, N0, S0, rfl, ho, ⟨hNg, hN0⟩, hcu1, hC1⟩
 rw [Hz0.out] at ho hC1
 obtain ⟨m, hNl⟩ : ∃ m, N0.ends.length = m := ⟨_, rfl⟩
 have hmM : m ≤ M := by rw [← hNl]; exact hNg.ends
 have hm0 : 0 < m := by omega
 obtain ⟨A1, c1, rfl, -, hm1, -⟩ := id ho.read.1
 obtain ⟨AI, cI, rfl, -, -, -⟩ := id ho.read.2.1
 obtain ⟨AN, cN, rfl, -, -, -⟩ := id ho.read.2.2
 obtain ⟨w3, hw3⟩ : ∃ z, z = w1.alloc (.cells #[.slice A1 N0.ends.length c1, .slice AI N0.ids.length cI, .slice AN N0.inputs.length cN] 27) := ⟨_, rfl⟩
 obtain ⟨pb, hpb⟩ : ∃ z, z = w1.heap.size := ⟨_, rfl⟩
 have h23 : Since w1 w3 := by rw [hw3]; exact since_alloc _ (since_refl _)
 have hB1 : B ≤ w1.heap.size := by rw [← Hz0.out]; exact hC1.size
 have hmb : Mb cb B pb A L c (P + 72057594037927936) w0 w3 (.slice A1 N0.ends.length c1) (.slice AI N0.ids.length cI) (.slice AN N0.inputs.length cN) N0 S0 :=
  ⟨ho.keep h23.below, by rw [hw3, hpb]; exact Box3.new _ _ _ _ _, fun hj => by have := (ho.range _ hj).2; omega, hcu1.since h23, hC1.trans ((CB.of h23).mono hB1)⟩
 have Hmb := Lib.hid hmb
 have Hpb : Hid (B ≤ pb ∧ pb < w3.heap.size) := ⟨by rw [hpb]; exact hB1, by rw [hw3, hpb]; simp⟩
 have Hw3 := Lib.hid hw3
 have Hpb2 := Lib.hid hpb
 have Hg0 := Lib.hid hNg
 have HNl0 := Lib.hid hNl
 have hbx := hmb.box.cells.1
 have hcB : cb < B := by have := HBd.out; omega
 have hpc : pb ≠ cb := by have := Hpb.out; omega
 rw [hNl] at hbx
 have m0 : IntKind.i64.wrap (1 + (m : Int)) = 1 + (m : Int) := wr64 _ (by omega) (by omega)
 clear hmb hw3 hpb hNg hNl ho h23 hN0 hB1 hcu1 hC1
 go_upto_region 2 with (fail)
 rw [← Hw3.out, ← Hpb2.out]
 go_wp2_with fail
 refine (pick_p cb A L c _ (1 + (m : Int)) w3 Hmb.out.cur (by omega) (by omega)).mono ?_
 rintro e w4 ⟨x4, rfl, hx4, hcu4, hC4⟩
 have hx5 : x4 ≤ m := by omega
 have Hm4 := Lib.hid (Hmb.out.seen hC4 hcu4 hcB Hpb.out.1 (by have := Hpb.out; omega))
 have Hz4 : Hid (B ≤ w4.heap.size) := by show _ ≤ _; have := Hpb.out; have := hC4.size; omega
 clear hcu4 hC4 hbx hx4
 go_upto_region 3 with (fail)
 obtain ⟨Q, hQ⟩ : ∃ z, z = P + 72057594037927936 + 2 := ⟨_, rfl⟩
 have HQ : Hid (Q = P + 72057594037927936 + 2) := hQ
 rw [← hQ] at Hm4
 clear hQ
 go_loopw [6] (fun i wr => ∃ (k : Nat) (ve vi vn : Value) (N : Net) (S : List Nat), k ≤ m ∧ i = .int .i64 k ∧ Mb cb B pb A L c (Q + 4 * (m - k)) w0 wr ve vi vn N S ∧ Gd 100 M N ∧ N.ends.length = m ∧ B ≤ wr.heap.size) (fun i _ => (intOf i).toNat)
 case atStart => exact ⟨x4, _, _, _, N0, S0, hx5, rfl, ⟨Hm4.out.own, Hm4.out.box, Hm4.out.nb, Hm4.out.cur.mono (by omega), Hm4.out.far⟩, Hg0.out, HNl0.out, Hz4.out⟩
 case round =>
  obtain ⟨k, ve, vi, vn, N, S2, hk, rfl, hm, hgd, hNl, hsz⟩ := hrel
  obtain ⟨A1', c1', rfl, -, hm1', -⟩ := id hm.own.read.1
  obtain ⟨AI', cI', rfl, -, -, -⟩ := id hm.own.read.2.1
  obtain ⟨AN', cN', rfl, -, -, -⟩ := id hm.own.read.2.2
  obtain ⟨g, rfl, -⟩ := hm.own.head (by omega)
  have Hm := Lib.hid hm
  have Hgd := Lib.hid hgd
  have HNl := Lib.hid hNl
  have Hsz := Lib.hid hsz
  clear hm hgd hNl hsz
  by_cases hlt : 0 < k
  ·have e0 : ((0 : Int) < (k : Int)) = True := by simp; omega
   have m4 : IntKind.i64.wrap ((k : Int) - 1) = (k : Int) - 1 := wr64 _ (by omega) (by omega)
   have HS0 := Lib.hid (show wr.cell? ⟨pb, 0, none⟩ = some (.slice (some ⟨g, 0, none⟩) m c1') from by obtain ⟨a, -⟩ := Hm.out.box.cells; rw [HNl.out] at a; exact a)
   obtain ⟨wo, rfl⟩ : ∃ z, z = wr := ⟨_, rfl⟩
   go_upto_region 5 with (fail)
   refine wp_region_chainS (fun W => W.cell? ⟨pb, 0, none⟩ = some (.slice (some ⟨g, 0, none⟩) m c1')) 10 [false, false, false, false, true, false, false, false, false, true] (by kernel_rfl) (by kernel_rfl) (show (World.drew wo).cell? ⟨pb, 0, none⟩ = some (.slice (some ⟨g, 0, none⟩) m c1') from HS0.out) ?_
   simp only [selF, selT, List.take_succ_cons, List.take_zero, List.drop_succ_cons, List.drop_zero]
   refine pflowS_val (v := ?_) rfl ?_ ?_; rotate_left; (intro W hW; (have k0 := hW); go_simp; with_reducible rfl)
   simp only [zA]
   refine pflowS_val (v := ?_) rfl ?_ ?_; rotate_left; (intro W hW; (have k0 := hW); go_simp; with_reducible rfl)
   simp only [zA]
   refine pflowS_val (v := ?_) rfl ?_ ?_; rotate_left; (intro W hW; (have k0 := hW); go_simp; with_reducible rfl)
   simp only [zA]
   refine pflowS_val (v := ?_) rfl ?_ ?_; rotate_left; (intro W hW; (have k0 := hW); go_simp; with_reducible rfl)
   simp only [zA]
   refine pflowS_val (v := ?_) rfl ?_ ?_; rotate_left; (intro W hW; (have k0 := hW); go_simp; with_reducible rfl)
   simp only [zA]
   refine pflowS_val (v := ?_) rfl ?_ ?_; rotate_left; (intro W hW; (have k0 := hW); go_simp; with_reducible rfl)
   simp only [zA]
   refine pflowS_val (v := ?_) rfl ?_ ?_; rotate_left; (intro W hW; (have k0 := hW); go_simp; with_reducible rfl)
   simp only [zA]
   refine pflowS_val (v := ?_) rfl ?_ ?_; rotate_left; (intro W hW; (have k0 := hW); go_simp; with_reducible rfl)
   simp only [zA]
   obtain ⟨W, hWd⟩ : ∃ W, W = World.drew wo := ⟨_, rfl⟩
   rw [← hWd]
   have hW := (show (World.drew wo).cell? ⟨pb, 0, none⟩ = some (.slice (some ⟨g, 0, none⟩) m c1') from HS0.out)
   rw [← hWd] at hW
   have HWd := Lib.hid hWd
   clear hWd
   refine Or.inl ⟨rfl, ?_⟩
   go_simp
   (with_reducible refine (pick_p cb A L c (Q + 4 * (m - k)) (m : Int) W (by rw [HWd.out]; exact Hm.out.cur.since (since_drew (since_refl _))) (by have := HQ.out; omega) (by omega)).mono ?_)
   rintro e W' ⟨a, rfl, ha, hcu, hC⟩
   refine ⟨_, rfl, seen_cell hW hpc _ hC, ?_⟩
   replace hW := seen_cell hW hpc _ hC
   have hS1 : Since wo W := (by rw [HWd.out]; exact since_drew (since_refl _))
   have HC3 := Lib.hid (((Seen.refl cb wo).after hS1).trans hC)
   have Hcu3 := Lib.hid hcu
   have Ha := Lib.hid ha
   clear hC hcu hS1 ha
   obtain ⟨wp, rfl⟩ : ∃ z, z = W' := ⟨_, rfl⟩
   (try simp only [zA])
   refine Or.inl ⟨rfl, ?_⟩
   go_simp
   (with_reducible refine (pick_p cb A L c (Q + 4 * (m - k) + 2) (m : Int) _ Hcu3.out (by have := HQ.out; omega) (by omega)).mono ?_)
   rintro e W' ⟨b, rfl, hb, hcu, hC⟩
   refine ⟨_, rfl, seen_cell hW hpc _ hC, ?_⟩
   replace hW := seen_cell hW hpc _ hC
   have Hm5 := Lib.hid (Hm.out.seen (HC3.out.trans hC) hcu hcB Hpb.out.1 Hsz.out)
   have Hsz5 : Hid (B ≤ W'.heap.size) := Nat.le_trans Hsz.out (HC3.out.trans hC).size
   clear hC hcu
   (try simp only [zA])
   simp only [TFlow]
   have ham : a < m := by have := Ha.out; omega
   have hbm : b < m := by omega
   clear hb
   obtain ⟨w5, rfl⟩ : ∃ z, z = W' := ⟨_, rfl⟩
   have Hx0 := Lib.hid hW
   clear hW
   obtain ⟨xa, hxae⟩ : ∃ z, z = rowN N a := ⟨_, rfl⟩
   obtain ⟨xb, hxbe⟩ : ∃ z, z = rowN N b := ⟨_, rfl⟩
   have hxa := rowN_get (n := N) (v := a) (by have := HNl.out; omega)
   have hxb := rowN_get (n := N) (v := b) (by have := HNl.out; omega)
   rw [← hxae] at hxa
   rw [← hxbe] at hxb
   have hla : xa.length ≤ 100 := Hgd.out.row _ _ hxa
   have hlb : xb.length ≤ 100 := Hgd.out.row _ _ hxb
   obtain ⟨ua, Ta, hca, -, hRa, -, -, -⟩ := Hm5.out.own.rowCell hxa
   obtain ⟨AUa, cUa, rfl, -, -, -⟩ := id hRa.read
   obtain ⟨ub, Tb, hcb', -, hRb, -, -, -⟩ := Hm5.out.own.rowCell hxb
   obtain ⟨AUb, cUb, rfl, -, -, -⟩ := id hRb.read
   have Hxae := Lib.hid hxae
   have Hxbe := Lib.hid hxbe
   have Hxa := Lib.hid hxa
   have pa := have_cell hca
   have pq := have_cell hcb'
   have p0 := have_cell Hx0.out
   have p1 := have_cell Hm5.out.box.cells.2.1
   have p2 := have_cell Hm5.out.box.cells.2.2.1
   have HN5 : Hid (NetIn w5 (.slice (some ⟨g, 0, none⟩) m c1') (.slice AI' N.ids.length cI') (.slice AN' N.inputs.length cN') N) := by show NetIn _ _ _ _ _; have h9 := Hm5.out.own.read; rw [HNl.out] at h9; exact h9
   clear hxae hxbe hxa hxb hRa hRb hca hcb'
   by_cases hab : a = b
   ·have e1 : ((a : Int) = (b : Int)) = True := by simp; omega
    have q0 := p0 w5 (since_refl _)
    clear p0 p1 p2 pa pq
    go_wp2
    go_roundw
    case rel => exact ⟨k - 1, _, _, _, N, S2, by omega, by rw [show ((k - 1 : Nat) : Int) = (k : Int) - 1 by omega], (⟨Hm5.out.own, Hm5.out.box, Hm5.out.nb, Hm5.out.cur.mono (by omega), Hm5.out.far⟩), Hgd.out, HNl.out, Hsz5.out⟩
    case measure => simp [intOf]; omega
   ·have e1 : ((a : Int) = (b : Int)) = False := by simp; omega
    have q0 := p0 w5 (since_refl _)
    have q1 := p1 w5 (since_refl _)
    have q2 := p2 w5 (since_refl _)
    go_wp2_with fail
    refine (neNear_any _ _ _ N a xa w5 HN5.out Hxa.out (by omega)).mono ?_
    rintro e w6 ⟨u6, rfl, ho6, hb6⟩
    have hs6 : Since w5 w6 := hb6
    have Hm6 := Lib.hid (Hm5.out.since hs6 hcB Hpb.out.1 Hsz5.out)
    have Hsz6 : Hid (B ≤ w6.heap.size) := Nat.le_trans Hsz5.out hs6.below.size
    obtain ⟨A6, c6, rfl, -, -, -⟩ := id ho6.ints
    have Ho6 := Lib.hid ho6
    clear ho6 q0 q1 q2
    go_wp2_with fail
    refine (l1Has_any _ (xa.map (·.1)) (b : Int) w6 (by have h9 := Ho6.out.ints; rw [List.length_map] at h9; exact h9)).mono ?_
    rintro e w7 ⟨rfl, hw7⟩
    subst hw7
    have q0 := p0 w6 hs6
    have q1 := p1 w6 hs6
    have q2 := p2 w6 hs6
    have qa := pa w6 hs6
    have qb := pq w6 hs6
    clear p0 p1 p2 pa pq hs6 hb6
    cases hh : hasB (xa.map (·.1)) (b : Int)
    ·by_cases h5 : xa.length < 5
     ·have e5 : ((xa.length : Int) < 5) = True := by simp; omega
      by_cases h6 : xb.length < 5
      ·have e6 : ((xb.length : Int) < 5) = True := by simp; omega
       go_wp2_with fail
       refine (neJoin_any _ _ _ N a b w6 (by have h9 := Hm6.out.own.read; rw [HNl.out] at h9; exact h9) (by rw [HNl.out]; exact ham) (by rw [HNl.out]; exact hbm) ((Hgd.out.mono (R' := 100) (M' := 40) (by omega) hM).small (by omega) (by omega))).mono ?_
       rintro e w8 ⟨ve2, vi2, vn2, S3, rfl, ho2, hb2⟩
       have hs8 : Since w6 w8 := hb2
       obtain ⟨D0, d0, rfl, -, -, -⟩ := id ho2.read.1
       obtain ⟨D1, d1, rfl, -, -, -⟩ := id ho2.read.2.1
       obtain ⟨D2, d2, rfl, -, -, -⟩ := id ho2.read.2.2
       have hma := Hm6.out.assign (CB.of hs8) (Hm6.out.cur.since hs8) ho2 Hm6.out.box.lt hcB Hpb.out.1 Hsz6.out
       clear q0 q1 q2 qa qb
       obtain ⟨k0, k1, k2, f0, f1, f2⟩ := (Hm6.out.box.below hs8 Hm6.out.box.lt).cells
       have Hma := Lib.hid hma
       have hsz4 : B ≤ (set3 w8 pb (.slice D0 (joinN N a b).ends.length d0) (.slice D1 (joinN N a b).ids.length d1) (.slice D2 (joinN N a b).inputs.length d2)).heap.size := by rw [set3_size]; exact Nat.le_trans Hsz6.out hs8.below.size
       have Hsz4 := Lib.hid hsz4
       have Hg2 := Lib.hid (Hgd.out.joinLow (v := a) (u := b) (by rw [HNl.out]; exact ham) (by rw [HNl.out]; exact hbm) hab (by rw [← Hxae.out]; omega) (by rw [← Hxbe.out]; omega) (by omega))
       have Hl2 := Lib.hid ((join_len N a b).trans HNl.out)
       clear hma ho2 hb2 hs8 hsz4
       go_wp2
       go_roundw
       case rel => exact ⟨k - 1, _, _, _, joinN N a b, S3, by omega, by rw [show ((k - 1 : Nat) : Int) = (k : Int) - 1 by omega], ⟨Hma.out.own, Hma.out.box, Hma.out.nb, Hma.out.cur.mono (by omega), Hma.out.far⟩, Hg2.out, Hl2.out, Hsz4.out⟩
       case measure => simp [intOf]; omega
      ·have e6 : ((xb.length : Int) < 5) = False := by simp; omega
       go_wp2
       go_roundw
       case rel => exact ⟨k - 1, _, _, _, N, S2, by omega, by rw [show ((k - 1 : Nat) : Int) = (k : Int) - 1 by omega], (⟨Hm6.out.own, Hm6.out.box, Hm6.out.nb, Hm6.out.cur.mono (by omega), Hm6.out.far⟩), Hgd.out, HNl.out, Hsz6.out⟩
       case measure => simp [intOf]; omega
     ·have e5 : ((xa.length : Int) < 5) = False := by simp; omega
      go_wp2
      go_roundw
      case rel => exact ⟨k - 1, _, _, _, N, S2, by omega, by rw [show ((k - 1 : Nat) : Int) = (k : Int) - 1 by omega], (⟨Hm6.out.own, Hm6.out.box, Hm6.out.nb, Hm6.out.cur.mono (by omega), Hm6.out.far⟩), Hgd.out, HNl.out, Hsz6.out⟩
      case measure => simp [intOf]; omega
    ·go_wp2
     go_roundw
     case rel => exact ⟨k - 1, _, _, _, N, S2, by omega, by rw [show ((k - 1 : Nat) : Int) = (k : Int) - 1 by omega], (⟨Hm6.out.own, Hm6.out.box, Hm6.out.nb, Hm6.out.cur.mono (by omega), Hm6.out.far⟩), Hgd.out, HNl.out, Hsz6.out⟩
     case measure => simp [intOf]; omega
  ·obtain rfl : k = 0 := by omega
   obtain ⟨k0, k1, k2, -, -, -⟩ := Hm.out.box.cells
   have Hg80 := Hgd
   have Hm2 := Hm
   have Hsz2 := Hsz
   obtain ⟨w5, rfl⟩ : ∃ z, z = wr := ⟨_, rfl⟩
   go_upto_region 8 with (fail)
   go_wp2_with fail
   refine (mixed_p cb A L c _ B 100 M _ _ _ N S2 w5 Hm2.out.cur (by have := HQ.out; omega) Hm2.out.own hcB Hsz2.out Hg80.out (by omega) (by omega) (by have := HNl.out; omega)).mono ?_
   rintro e w6 ⟨ve6, vi6, vn6, N6, S6, rfl, ho6, ⟨hsh6, hg6⟩, hcu6, hC6⟩
   obtain ⟨D0, d0, rfl, -, -, -⟩ := id ho6.read.1
   obtain ⟨D1, d1, rfl, -, -, -⟩ := id ho6.read.2.1
   obtain ⟨D2, d2, rfl, -, -, -⟩ := id ho6.read.2.2
   have hfar := (Hm2.out.far.mono (Nat.le_refl B)).trans hC6
   have hrw := hfar.blkN Hrb.out (by have := HBd.out; omega) (by omega)
   obtain ⟨e0, e1, e2, f0, f1, f2⟩ := hrw.box.cells
   have hown := ho6
   rw [HBd.out] at hown hfar
   have Hret := Lib.hid (ret_net Hs0.out hown hcu6 hfar hcb)
   have Hsh6 := Lib.hid hsh6
   have Hg6 := Lib.hid hg6
   clear hfar hrw hown hsh6 hg6 hcu6 hC6 ho6 k0 k1 k2
   go_wp2
   refine bodyPost_ret (v := .agg #[.slice D0 N6.ends.length d0, .slice D1 N6.ids.length d1, .slice D2 N6.inputs.length d2]) (by simp [results, Tryz.results191, go_sem, *]) rfl ?_
   obtain ⟨r1, r2, r3⟩ := Hret.out
   exact ⟨_, _, _, N6, S6, rfl, r1, ⟨Hg6.out.mono (by omega) (Nat.le_refl _), by have := HNl.out; have := Hsh6.out.len; omega⟩, r2.mono (by have := HQ.out; omega), r3⟩
end Go.Proofs.YtgmdpppljkmabaaGreat
namespace Go.Proofs.YtgmdpppljkmabaaGreat
open Go Go.RowKit
/-! identifiers or inputs of a network are turned in their own memory (append) -/
theorem OwnNet.turnIds {w w' : World} {base : Nat} {ve vi vn vi' : Value} {N : Net} {S T : List Nat} {ids' : List Int} (h : OwnNet w base ve vi vn N S) (ho : OwnI w' base vi' ids' T) (hon : Only vi.ownBlock.toList w w') (hT : ∀ j ∈ T, j ∈ vi.ownBlock.toList ∨ w.heap.size ≤ j) :
  ∃ S', OwnNet w' base ve vi' vn { N with ids := ids' } S' ∧ ∀ j ∈ S', j ∈ S ∨ w.heap.size ≤ j := by
 have hrg := h.range
 obtain ⟨S1, S2, S3, h1, h2, h3, h4, h5⟩ := h
 have e2 : S2 = vi.ownBlock.toList := h2.2
 rw [← e2] at hon hT
 have h5' := h5
 rw [h4, List.nodup_append, List.nodup_append] at h5
 obtain ⟨n1, ⟨n2, n3, d23⟩, d1⟩ := h5
 have m1 : ∀ j ∈ S1, j ∈ S := fun j hj => by rw [h4]; exact List.mem_append_left _ hj
 have m2 : ∀ j ∈ S2, j ∈ S := fun j hj => by rw [h4]; exact List.mem_append_right _ (List.mem_append_left _ hj)
 have m3 : ∀ j ∈ S3, j ∈ S := fun j hj => by rw [h4]; exact List.mem_append_right _ (List.mem_append_right _ hj)
 have x1 : ∀ j ∈ S1, j ∉ S2 := fun j hj hk => d1 j hj j (List.mem_append_left _ hk) rfl
 have x3 : ∀ j ∈ S3, j ∉ S2 := fun j hj hk => d23 j hk j hj rfl
 have t1 : ∀ j ∈ S1, j ∉ T := fun j hj hk => by
  rcases hT j hk with h | h
  ·exact x1 j hj h
  ·have := (hrg j (m1 j hj)).2; omega
 have t3 : ∀ j ∈ S3, j ∉ T := fun j hj hk => by
  rcases hT j hk with h | h
  ·exact x3 j hj h
  ·have := (hrg j (m3 j hj)).2; omega
 refine ⟨S1 ++ (T ++ S3), ⟨S1, T, S3, lawEE.only h1 hon x1, ho, lawI.only h3 hon x3, rfl, ?_⟩, ?_⟩
 ·rw [List.nodup_append, List.nodup_append]
  refine ⟨n1, ⟨lawI.nodup ho, n3, fun a ha b hb e => t3 b hb (e ▸ ha)⟩, fun a ha b hb e => ?_⟩
  rcases List.mem_append.1 hb with hb | hb
  ·exact t1 a ha (e ▸ hb)
  ·exact d1 a ha b (List.mem_append_right _ hb) e
 ·intro j hj
  rcases List.mem_append.1 hj with hj | hj
  ·exact .inl (m1 j hj)
  ·rcases List.mem_append.1 hj with hj | hj
   ·rcases hT j hj with h | h
    ·exact .inl (m2 j h)
    ·exact .inr h
   ·exact .inl (m3 j hj)
theorem OwnNet.turnIn {w w' : World} {base : Nat} {ve vi vn vn' : Value} {N : Net} {S T : List Nat} {in' : List Int} (h : OwnNet w base ve vi vn N S) (ho : OwnI w' base vn' in' T) (hon : Only vn.ownBlock.toList w w') (hT : ∀ j ∈ T, j ∈ vn.ownBlock.toList ∨ w.heap.size ≤ j) :
  ∃ S', OwnNet w' base ve vi vn' { N with inputs := in' } S' ∧ ∀ j ∈ S', j ∈ S ∨ w.heap.size ≤ j := by
 have hrg := h.range
 obtain ⟨S1, S2, S3, h1, h2, h3, h4, h5⟩ := h
 have e3 : S3 = vn.ownBlock.toList := h3.2
 rw [← e3] at hon hT
 rw [h4, List.nodup_append, List.nodup_append] at h5
 obtain ⟨n1, ⟨n2, n3, d23⟩, d1⟩ := h5
 have m1 : ∀ j ∈ S1, j ∈ S := fun j hj => by rw [h4]; exact List.mem_append_left _ hj
 have m2 : ∀ j ∈ S2, j ∈ S := fun j hj => by rw [h4]; exact List.mem_append_right _ (List.mem_append_left _ hj)
 have m3 : ∀ j ∈ S3, j ∈ S := fun j hj => by rw [h4]; exact List.mem_append_right _ (List.mem_append_right _ hj)
 have x1 : ∀ j ∈ S1, j ∉ S3 := fun j hj hk => d1 j hj j (List.mem_append_right _ hk) rfl
 have x2 : ∀ j ∈ S2, j ∉ S3 := fun j hj hk => d23 j hj j hk rfl
 have t1 : ∀ j ∈ S1, j ∉ T := fun j hj hk => by
  rcases hT j hk with h | h
  ·exact x1 j hj h
  ·have := (hrg j (m1 j hj)).2; omega
 have t2 : ∀ j ∈ S2, j ∉ T := fun j hj hk => by
  rcases hT j hk with h | h
  ·exact x2 j hj h
  ·have := (hrg j (m2 j hj)).2; omega
 refine ⟨S1 ++ (S2 ++ T), ⟨S1, S2, T, lawEE.only h1 hon x1, lawI.only h2 hon x2, ho, rfl, ?_⟩, ?_⟩
 ·rw [List.nodup_append, List.nodup_append]
  refine ⟨n1, ⟨n2, lawI.nodup ho, fun a ha b hb e => t2 a ha (e ▸ hb)⟩, fun a ha b hb e => ?_⟩
  rcases List.mem_append.1 hb with hb | hb
  ·exact d1 a ha b (List.mem_append_left _ hb) e
  ·exact t1 a ha (e ▸ hb)
 ·intro j hj
  rcases List.mem_append.1 hj with hj | hj
  ·exact .inl (m1 j hj)
  ·rcases List.mem_append.1 hj with hj | hj
   ·exact .inl (m2 j hj)
   ·rcases hT j hj with h | h
    ·exact .inl (m3 j h)
    ·exact .inr h
def shiftE (k : Nat) (e : Int × Int) : Int × Int := (e.1 + (k : Int), e.2)
def unionN (a b : Net) : Net := ⟨a.ends ++ b.ends.map (List.map (shiftE a.ends.length)), a.ids ++ b.ids, a.inputs ++ b.inputs⟩
theorem Gd.union {R M M' : Nat} {a b : Net} (ha : Gd R M a) (hb : Gd R M' b) : Gd R (M + M') (unionN a b) := by
 have hl : (unionN a b).ends.length = a.ends.length + b.ends.length := by simp [unionN]
 have hrow : ∀ (k : Nat) (es : List (Int × Int)), (unionN a b).ends[k]? = some es → (k < a.ends.length ∧ a.ends[k]? = some es) ∨ (∃ fs, b.ends[k - a.ends.length]? = some fs ∧ es = fs.map (shiftE a.ends.length) ∧ a.ends.length ≤ k) := fun k es h => by
  unfold unionN at h
  rcases Nat.lt_or_ge k a.ends.length with hk | hk
  ·left; exact ⟨hk, by simpa [List.getElem?_append_left hk] using h⟩
  ·right
   simp only [List.getElem?_append_right hk, List.getElem?_map] at h
   cases hf : b.ends[k - a.ends.length]? with
   | none => rw [hf] at h; simp at h
   | some fs => rw [hf] at h; simp at h; exact ⟨fs, rfl, h.symm, hk⟩
 refine ⟨by have := ha.ends; have := hb.ends; omega, fun k es h => ?_, by simp only [unionN, List.length_append]; have := ha.ids; have := hb.ids; omega, by rw [hl]; simp only [unionN, List.length_append]; rw [ha.inputs, hb.inputs], fun k es h e he => ?_⟩
 ·rcases hrow k es h with ⟨-, h1⟩ | ⟨fs, h1, rfl, -⟩
  ·exact ha.row k es h1
  ·rw [List.length_map]; exact hb.row _ fs h1
 ·rcases hrow k es h with ⟨-, h1⟩ | ⟨fs, h1, rfl, -⟩
  ·obtain ⟨x, y, gs, q1, q2, q3⟩ := ha.wf k es h1 e he
   refine ⟨x, y, gs, q1, ?_, q3⟩
   unfold unionN
   simp only []
   rw [List.getElem?_append_left (lt_of_get q2)]
   exact q2
  ·obtain ⟨e0, h2, rfl⟩ := List.mem_map.1 he
   obtain ⟨x, y, gs, rfl, q2, q3⟩ := hb.wf _ fs h1 e0 h2
   refine ⟨x + a.ends.length, y, gs.map (shiftE a.ends.length), by simp [shiftE], ?_, by rw [List.length_map]; exact q3⟩
   unfold unionN
   simp only []
   rw [List.getElem?_append_right (by omega), Nat.add_sub_cancel, List.getElem?_map, q2]
   rfl
end Go.Proofs.YtgmdpppljkmabaaGreat
namespace Go.Proofs.YtgmdpppljkmabaaGreat
open Go Go.RowKit
/-! append of any row of integers, empty or not -/
theorem app_intsA {w : World} {ops : Array Oper} {rest : List Oper} {o : Oper} {a : Act} {Q : Exit → Act → World → Prop} (hgd : o.guard = none) (s x : Operand)
  (ho : o.op = .call { callee := .builtin .append, args := #[s, x], argTypes := #[25, 25] }) {base : Nat} {v u : Value} {xs ys : List Int} (hs : a.eval s = v) (h : Own w base v xs) (hx : a.eval x = u) (hu : IntS w u ys) (hl : xs.length + ys.length ≤ 17592186044416) (hbase : base ≤ w.heap.size)
  (k : ∀ v' w' T, OwnI w' base v' (xs ++ ys) T → Only v.ownBlock.toList w w' → (∀ j ∈ T, j ∈ v.ownBlock.toList ∨ w.heap.size ≤ j) → wpList Tryz.prog ops Q rest (a.put o.dst v') w') : wpList Tryz.prog ops Q (o :: rest) a w := by
 obtain ⟨A, c, rfl, hlc, hm, hA⟩ := hu
 rcases Nat.eq_zero_or_pos ys.length with h0 | h0
 ·obtain rfl : ys = [] := List.eq_nil_of_length_eq_zero h0
  refine app_zeroI hgd s x ho hs h A c hx ?_
  exact k v w _ ⟨by simpa using h, rfl⟩ (Only.refl _ _) (fun j hj => .inl hj)
 ·obtain ⟨y0, hy0⟩ := getx ys 0 h0
  obtain ⟨b, off, rfl, _⟩ := hA 0 y0 hy0
  refine app_ints hgd s x ho hs h b off c ys hx (fun j y hj => by
   obtain ⟨b', off', e, hc⟩ := hA j y hj
   cases e
   exact hc) h0 hl hbase ?_
  intro g cap w' h1 h2 h3 h4
  refine k _ w' [g] ⟨h1, by simp [Value.ownBlock]⟩ (Only.of_grown h2) (fun j hj => ?_)
  simp at hj
  subst hj
  rcases h3 with h3 | h3
  ·left; rw [h3]; simp
  ·right; omega
end Go.Proofs.YtgmdpppljkmabaaGreat
