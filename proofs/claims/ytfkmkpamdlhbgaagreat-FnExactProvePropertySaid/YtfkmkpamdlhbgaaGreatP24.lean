/- Parts of the proof: walks of functions and plain laws. -/
import Derived.Test.YtfkmkpamdlhbgaaGreatP23
import Derived.Test.YtfkmkpamdlhbgaaGreatP19
import Derived.Test.YtfkmkpamdlhbgaaGreatP15
import Derived.Test.YtfkmkpamdlhbgaaGreatP12
import Derived.Test.YtfkmkpamdlhbgaaGreatP10
import Derived.Test.YtfkmkpamdlhbgaaGreatP11
namespace Go.Proofs.YtfkmkpamdlhbgaaGreat
open Go.RowKit
/-! evenLabels: ports and depths -/
def fillL (f : Nat → Int) (c : Int) (N k : Nat) : List Int := (List.range k).map f ++ List.replicate (N - k) c
theorem fillL_zero (f : Nat → Int) (c : Int) (N : Nat) : fillL f c N 0 = List.replicate N c := by simp [fillL]
theorem fillL_end (f : Nat → Int) (c : Int) (N : Nat) : fillL f c N N = (List.range N).map f := by simp [fillL]
theorem fillL_len (f : Nat → Int) (c : Int) {N k : Nat} (h : k ≤ N) : (fillL f c N k).length = N := by simp [fillL]; omega
theorem fillL_set (f : Nat → Int) (c : Int) {N k : Nat} (h : k < N) : (fillL f c N k).set k (f k) = fillL f c N (k + 1) := by
  unfold fillL
  rw [List.set_append_right _ _ (by simp), show N - k = (N - (k + 1)) + 1 by omega, List.replicate_succ, List.range_succ, List.map_append]
  simp
structure Ev1 (f1 f2 : Nat → Int) (N : Nat) (w3 wr : World) (base gp cp gd cd k : Nat) : Prop where
  p : Own wr base (.slice (some ⟨gp, 0, none⟩) N cp) (fillL f1 (-1) N k)
  d : Own wr base (.slice (some ⟨gd, 0, none⟩) N cd) (fillL f2 0 N k)
  only : Only [gp, gd] w3 wr
theorem Ev1.since {f1 f2 : Nat → Int} {N : Nat} {w3 wr W : World} {base gp cp gd cd k : Nat} (h : Ev1 f1 f2 N w3 wr base gp cp gd cd k) (hs : Since wr W) : Ev1 f1 f2 N w3 W base gp cp gd cd k := ⟨Own.since h.p hs, Own.since h.d hs, h.only.trans (Only.of_below hs.below)⟩
theorem Ev1.put {f1 f2 : Nat → Int} {N : Nat} {w3 wr : World} {base gp cp gd cd k : Nat} (h : Ev1 f1 f2 N w3 wr base gp cp gd cd k) (hk : k < N) (hne : gp ≠ gd) :
    Own (wr.setCell ⟨gp, k, none⟩ (.int .i64 (f1 k))) base (.slice (some ⟨gp, 0, none⟩) N cp) (fillL f1 (-1) N (k + 1)) ∧ Own (wr.setCell ⟨gp, k, none⟩ (.int .i64 (f1 k))) base (.slice (some ⟨gd, 0, none⟩) N cd) (fillL f2 0 N k) ∧ Only [gp, gd] w3 (wr.setCell ⟨gp, k, none⟩ (.int .i64 (f1 k))) := by
  refine ⟨by rw [← fillL_set f1 (-1) hk]; exact h.p.set _, ?_, h.only.setCell (.inl (by simp)) _⟩
  exact (lawI.stable (⟨h.d, rfl⟩ : OwnI _ _ _ _ _) (fun j hj => Below.heap_setCell _ _ _ _ (by simp [Value.ownBlock] at hj; subst hj; exact Ne.symm hne))).1
theorem Ev1.next {f1 f2 : Nat → Int} {N : Nat} {w3 wr : World} {base gp cp gd cd k : Nat} (h1 : Own wr base (.slice (some ⟨gp, 0, none⟩) N cp) (fillL f1 (-1) N (k + 1))) (h2 : Own wr base (.slice (some ⟨gd, 0, none⟩) N cd) (fillL f2 0 N k)) (h3 : Only [gp, gd] w3 wr) (hk : k < N) (hne : gp ≠ gd) :
    Ev1 f1 f2 N w3 (wr.setCell ⟨gd, k, none⟩ (.int .i64 (f2 k))) base gp cp gd cd (k + 1) := by
  refine ⟨?_, by rw [← fillL_set f2 0 hk]; exact h2.set _, h3.setCell (.inl (by simp)) _⟩
  exact (lawI.stable (⟨h1, rfl⟩ : OwnI _ _ _ _ _) (fun j hj => Below.heap_setCell _ _ _ _ (by simp [Value.ownBlock] at hj; subst hj; exact hne))).1
theorem nat_list {N : Nat} {l : List Int} (h : l.Perm (upto N)) : ∃ ln : List Nat, l = ln.map (fun k : Nat => (k : Int)) ∧ ln.Perm (List.range N) ∧ ln.length = N := by
  refine ⟨l.map Int.toNat, ?_, ?_, by rw [List.length_map, h.length_eq, upto_len]⟩
  · rw [List.map_map]
    have : l.map ((fun k : Nat => (k : Int)) ∘ Int.toNat) = l.map id := List.map_congr_left fun x hx => by
      have := upto_mem (h.mem_iff.1 hx)
      show ((x.toNat : Nat) : Int) = x
      omega
    rw [this, List.map_id]
  · have h2 := h.map Int.toNat
    have : (upto N).map Int.toNat = List.range N := by
      unfold upto
      rw [List.map_map]
      have : (List.range N).map (Int.toNat ∘ Int.ofNat) = (List.range N).map id := List.map_congr_left fun x _ => rfl
      rw [this, List.map_id]
    rwa [this] at h2
set_option maxRecDepth 100000 in
set_option maxHeartbeats 1600000 in
theorem evenLabels_any (ve vi vn : Value) (n : Net) (w : World) (h : NetIn w ve vi vn n) (hn : netOk n = true) (hid : n.ids.length ≠ 0) :
    Calls Tryz.prog 57 #[.agg #[ve, vi, vn]] w fun e w' => ∃ u, e = .returned u ∧ Own w' w.heap.size u ((List.range n.ends.length).map (evLab n)) ∧ Below w.heap.size w w' := by
  have hnl := netOk_len hn
  have hn1 := hnl.1
  have hn2 := hnl.2
  have Hn := Lib.hid hn
  have Hid0 := Lib.hid hid
  clear hnl hn hid
  obtain ⟨w0, hw0⟩ : ∃ w0, w0 = (w).alloc (.cells #[ve, vi, vn] 27) := ⟨_, rfl⟩
  have hb0 : Below w.heap.size w w0 := by rw [hw0]; exact ((Below.refl _ _).alloc (by simp) _)
  have H := Lib.hid (h.keep hb0)
  obtain ⟨h1, h2, h3⟩ := h.keep hb0
  obtain ⟨A, c, rfl, hlc, hm, hA⟩ := h1
  obtain ⟨A2, c2, rfl, _, hm2, _⟩ := h2
  obtain ⟨A3, c3, rfl, _, hm3, _⟩ := h3
  unfold maxLen at hm hm2 hm3
  have p00 : ∀ W, Since w0 W → W.cell? ⟨w.heap.size, 0, none⟩ = some (.slice A n.ends.length c) := have_cell (by rw [hw0]; simp)
  have p01 : ∀ W, Since w0 W → W.cell? ⟨w.heap.size, 1, none⟩ = some (.slice A2 n.ids.length c2) := have_cell (by rw [hw0]; simp)
  have p02 : ∀ W, Since w0 W → W.cell? ⟨w.heap.size, 2, none⟩ = some (.slice A3 n.inputs.length c3) := have_cell (by rw [hw0]; simp)
  have Hb0 := Lib.hid hb0
  have Hw0 := Lib.hid hw0
  have HA := Lib.hid hA
  clear hA h
  clear hb0 hw0
  go_enter Tryz.func57, Tryz.ntmps57
  go_upto_region 1 with (fail)
  rw [← Hw0.out]
  have hs0 : Since w0 w0 := since_refl _
  go_wp2_with fail
  refine (components_any _ _ _ n w0 H.out Hn.out).mono ?_
  rintro e w1 ⟨uR, rfl, hoR, hb1⟩
  have hs1 : Since w0 w1 := hb1
  obtain ⟨AR, cR, rfl, -, -, -⟩ := id hoR.ints
  have hRl : (compB n).length = n.ends.length := compB_len n
  rw [hRl] at hoR
  obtain ⟨bR, oR, rfl, hcR⟩ := roots_cell hoR.ints hRl (by omega)
  have HcR := Lib.hid hcR
  have Hs1 := Lib.hid hs1
  have HRl := Lib.hid hRl
  clear hoR hcR hRl hs0 hb1
  rw [HRl.out]
  go_wp2_with fail
  refine (noMatching_any _ _ _ n w1 (H.out.keep Hs1.out.below) (by omega) (by omega)).mono ?_
  rintro e w2 ⟨uP, rfl, hoP, hb2⟩
  have hs2 : Since w1 w2 := hb2
  rcases hoP.cases with ⟨-, h9⟩ | ⟨gp, cp, hvp, hgp1, hgp2⟩
  · exfalso
    have h8 : n.ends.length = 0 := by
      have h7 := congrArg List.length h9
      rw [List.length_replicate] at h7
      exact h7
    omega
  rw [List.length_replicate] at hvp
  subst hvp
  obtain ⟨w3, hw3⟩ : ∃ z, z = w2.alloc (.cells #[.slice (some ⟨gp, 0, none⟩) n.ends.length cp] 25) := ⟨_, rfl⟩
  obtain ⟨bp, hbp⟩ : ∃ z, z = w2.heap.size := ⟨_, rfl⟩
  have hs3 : Since w2 w3 := by rw [hw3]; exact since_alloc _ (since_refl _)
  have cbp : w3.cell? ⟨bp, 0, none⟩ = some (.slice (some ⟨gp, 0, none⟩) n.ends.length cp) := by rw [hw3, hbp]; simp
  have HoP3 := Lib.hid (Own.since hoP hs3)
  have Hs13 := Lib.hid (Since.after hs2 hs3)
  have Hcbp := Lib.hid cbp
  have Hz3 : Hid (bp + 1 = w3.heap.size ∧ w1.heap.size ≤ gp ∧ gp < bp ∧ w1.heap.size ≤ w2.heap.size) := ⟨by rw [hw3, hbp]; simp, hgp1, by rw [hbp]; exact hgp2, hs2.below.size⟩
  have Hw3 := Lib.hid hw3
  have Hbp := Lib.hid hbp
  clear hoP hb2 hs2 hs3 cbp hw3 hbp hgp1 hgp2 hs1
  go_upto_region 3 with (fail)
  rw [← Hw3.out, ← Hbp.out]
  obtain ⟨gd, hgd⟩ : ∃ z, z = w3.heap.size := ⟨_, rfl⟩
  go_upto_region 4 with (at_make; refine mk_ints _ rfl _ _ rfl _ _ n.ends.length rfl rfl rfl rfl (by omega) ?_; intro w4 ho4 hb4 hz4)
  rw [← hgd] at ho4 hz4 ⊢
  have hs4 : Since w3 w4 := hb4
  have hE0 : Ev1 (ptB n) (depB n) n.ends.length w4 w4 w1.heap.size gp cp gd n.ends.length 0 := ⟨by rw [fillL_zero]; exact Own.since HoP3.out hs4, by rw [fillL_zero]; exact ho4.mono (by have := Hz3.out; omega), Only.refl _ _⟩
  have HE0 := Lib.hid hE0
  have Hs14 := Lib.hid (Since.after Hs13.out hs4)
  have Hcb4 := Lib.hid (have_cell Hcbp.out w4 hs4)
  have Hz4 : Hid (w1.heap.size ≤ gp ∧ gp < bp ∧ bp < gd ∧ gd < w4.heap.size) := by have := Hz3.out; exact ⟨by omega, by omega, by omega, hz4⟩
  clear hE0 ho4 hb4 hz4 hs4 hgd
  go_upto_region 5 with (fail)
  go_loopw [22] (fun i wr => ∃ k : Nat, k ≤ n.ends.length ∧ i = .int .i64 k ∧ Ev1 (ptB n) (depB n) n.ends.length w4 wr w1.heap.size gp cp gd n.ends.length k) (fun i _ => n.ends.length - (intOf i).toNat)
  case atStart => exact ⟨0, Nat.zero_le _, rfl, HE0.out⟩
  case round =>
    obtain ⟨k, hk, rfl, hE⟩ := hrel
    have hne : gp ≠ gd := by have := Hz4.out; omega
    have hs1r : Since w1 wr := Only.since Hs14.out hE.only (fun j hj => by have := Hz4.out; simp at hj; omega)
    have hs0r : Since w0 wr := Since.after Hs1.out hs1r
    have cb := hE.only.cell (p := ⟨bp, 0, none⟩) (by have := Hz4.out; simp; omega) Hcb4.out
    have HE := Lib.hid hE
    have Hs1r := Lib.hid hs1r
    have Hs0r := Lib.hid hs0r
    have Hcb := Lib.hid cb
    clear hE hs1r cb
    by_cases hlt : k < n.ends.length
    · have m3 : IntKind.i64.wrap ((k : Int) + 1) = (k : Int) + 1 := wr64 _ (by omega) (by omega)
      have hcc : (compB n)[k]? = some (leastB n k : Int) := by unfold compB; rw [List.getElem?_map, List.getElem?_range hlt]; rfl
      have c0 := HcR.out k _ hcc wr Hs1r.out
      have hpN := least_lt Hn.out hlt
      obtain ⟨p, hp⟩ : ∃ z, z = leastB n k := ⟨_, rfl⟩
      rw [← hp] at c0 hpN
      have Hp := Lib.hid hp
      clear hcc hp
      go_wp2_with fail
      refine (spanningTree_any _ _ _ n p wr (H.out.keep Hs0r.out.below) Hn.out hpN).mono ?_
      rintro e w5 ⟨uT, rfl, hoT, hb5⟩
      have hs5 : Since wr w5 := hb5
      obtain ⟨AT, cT, rfl, -, -, -⟩ := id hoT.ints
      have hTl : (spanB n p).length = n.ends.length := by simp [spanB]
      rw [hTl] at hoT
      obtain ⟨bT, oT, rfl, hcT⟩ := roots_cell hoT.ints hTl (by omega)
      rw [hTl]
      have ct := hcT k _ (span_get hlt) w5 (since_refl _)
      rw [show towB n p k = ptB n k by unfold ptB; rw [← Hp.out]] at ct
      have hE5 := HE.out.since hs5
      have cb5 := have_cell Hcb.out w5 hs5
      have f5 := hE5.p.free k
      obtain ⟨y0, hy0⟩ := getx (fillL (ptB n) (-1) n.ends.length k) k (by rw [fillL_len _ _ hk]; exact hlt)
      have cz := hE5.p.cell hy0
      obtain ⟨q1, q2, q3⟩ := hE5.put hlt hne
      have hs05 := Since.after Hs0r.out hs5
      obtain ⟨w6, hw6⟩ : ∃ z, z = w5.setCell ⟨gp, k, none⟩ (.int .i64 (ptB n k)) := ⟨_, rfl⟩
      rw [← hw6] at q1 q2 q3
      have hs06 : Since w0 w6 := by rw [hw6]; exact Below.setCell hs05 (p := ⟨gp, k, none⟩) (by show _ ≤ gp; have := Hz4.out; have := Hs1.out.below.size; omega) _
      have Hq := Lib.hid (And.intro q1 (And.intro q2 (And.intro q3 hs06)))
      have Hw6 := Lib.hid hw6
      clear hoT hb5 hs5 hTl hcT hE5 hy0 q1 q2 q3 hs05 hs06 hw6 c0 hs0r
      obtain ⟨tk, htk⟩ : ∃ z, z = ptB n k := ⟨_, rfl⟩
      have Hw6' : Hid (w6 = w5.setCell ⟨gp, k, none⟩ (.int .i64 tk)) := by show _ = _; rw [htk]; exact Hw6.out
      rw [← htk] at ct
      clear Hw6 htk
      go_upto_region 8 with (fail)
      go_region
      rw [← Hw6'.out]
      obtain ⟨w7, hw7⟩ : ∃ z, z = World.drew w6 := ⟨_, rfl⟩
      rw [← hw7]
      have hs7 : Since w6 w7 := by rw [hw7]; exact since_drew (since_refl _)
      have Hs7 := Lib.hid hs7
      have hs07 : Since w0 w7 := Since.after Hq.out.2.2.2 hs7
      have Hs07 := Lib.hid hs07
      clear hw7 hs7 Hw6' cb5 ct f5 cz
      go_wp2_with fail
      refine (distancesFrom_any _ _ _ n p w7 (H.out.keep Hs07.out.below) Hn.out hpN).mono ?_
      rintro e w8 ⟨uF, rfl, hoF, hb8⟩
      obtain ⟨AF, cF, rfl, -, -, -⟩ := id hoF.ints
      rw [distB_ln Hn.out hpN] at hoF
      obtain ⟨bF, oF, rfl, hcF⟩ := dist_cell Hn.out hpN hoF.ints
      rw [distB_ln Hn.out hpN]
      have cf := hcF k hlt w8 (since_refl _)
      rw [show distI n p k = depB n k by unfold depB; rw [← Hp.out]] at cf
      have hs68 : Since w6 w8 := Since.after Hs7.out hb8
      have r1 := Own.since Hq.out.1 hs68
      have r2 := Own.since Hq.out.2.1 hs68
      have r3 := Hq.out.2.2.1.trans (Only.of_below hs68.below)
      have f5 := r2.free k
      obtain ⟨y0, hy0⟩ := getx (fillL (depB n) 0 n.ends.length k) k (by rw [fillL_len _ _ hk]; exact hlt)
      have cz := r2.cell hy0
      have hnx := Ev1.next r1 r2 r3 hlt hne
      have Hnx := Lib.hid hnx
      obtain ⟨dk, hdk⟩ : ∃ z, z = depB n k := ⟨_, rfl⟩
      rw [← hdk] at cf Hnx
      clear hoF hb8 hcF hs68 r1 r2 r3 hy0 hnx hdk hs07
      go_wp2
      go_roundw
      case rel => exact ⟨k + 1, by omega, by first | rfl | go_num, Hnx.out⟩
      case measure => simp [intOf]; omega
    · obtain rfl : k = n.ends.length := by omega
      clear hk hlt
      obtain ⟨wq, rfl⟩ : ∃ z, z = wr := ⟨_, rfl⟩
      have hP := HE.out.p
      have hD := HE.out.d
      rw [fillL_end] at hP hD
      have HP := Lib.hid hP
      have HD := Lib.hid hD
      clear hP hD
      have hlit : (wq.alloc (.cells #[.int .i64 1] 3)).cell? ⟨wq.heap.size, 0, none⟩ = some (.int .i64 1) := by simp
      have Hlit := Lib.hid hlit
      clear hlit
      go_wp2_with fail
      refine (repeat1_any wq.heap.size 1 1 n.ends.length _ (by omega) (by omega) Hlit.out).mono ?_
      rintro e w9 ⟨uS, rfl, hoS, hb9⟩
      rcases hoS.cases with ⟨-, h9⟩ | ⟨gs, cs, hvs, hgs1, hgs2⟩
      · exfalso
        have h8 : n.ends.length = 0 := by
          have h7 := congrArg List.length h9
          rw [List.length_replicate] at h7
          exact h7
        omega
      rw [List.length_replicate] at hvs
      subst hvs
      have hq9 : Since wq w9 := Since.after (since_alloc _ (since_refl _)) hb9
      obtain ⟨w10, hw10⟩ : ∃ z, z = w9.alloc (.cells #[.slice (some ⟨gs, 0, none⟩) n.ends.length cs] 25) := ⟨_, rfl⟩
      obtain ⟨bs, hbs⟩ : ∃ z, z = w9.heap.size := ⟨_, rfl⟩
      have h910 : Since w9 w10 := by rw [hw10]; exact since_alloc _ (since_refl _)
      have cbs : w10.cell? ⟨bs, 0, none⟩ = some (.slice (some ⟨gs, 0, none⟩) n.ends.length cs) := by rw [hw10, hbs]; simp
      have hq10 : Since wq w10 := Since.after hq9 h910
      have HoS := Lib.hid (Own.since hoS h910)
      have Hcbs := Lib.hid (have_cell cbs)
      have Hq10 := Lib.hid hq10
      have Hzs : Hid (wq.heap.size ≤ gs ∧ gs < bs ∧ bs < w10.heap.size) := by
        have h7 : wq.heap.size + 1 = (wq.alloc (.cells #[.int .i64 1] 3)).heap.size := by simp
        refine ⟨by omega, by rw [hbs]; exact hgs2, by rw [hw10, hbs]; simp⟩
      have Hw10 := Lib.hid hw10
      have Hbs := Lib.hid hbs
      clear hoS hb9 hgs1 hgs2 hq9 hw10 hbs h910 cbs hq10
      go_upto_region 12 with (fail)
      rw [← Hw10.out, ← Hbs.out]
      have hup := upwards_any (.slice (some ⟨gd, 0, none⟩) n.ends.length n.ends.length) ((List.range n.ends.length).map (depB n)) w10 (Own.since HD.out Hq10.out).ints (by simp; omega) (by simp; omega) (fun x hx => by
        obtain ⟨v, hv, rfl⟩ := List.mem_map.1 hx
        have hvN := List.mem_range.1 hv
        have h1 := (trB Hn.out).pos v hvN
        have h2 : depB n v < n.ends.length := (distI_b Hn.out (least_lt Hn.out hvN) hvN).2
        omega)
      have Hup := Lib.hid hup
      clear hup
      go_wp2_with fail
      refine Hup.out.mono ?_
      rintro e w11 ⟨uO, l, rfl, hoO, hpm, hpw, hb11⟩
      rw [List.length_map, List.length_range] at hpm
      obtain ⟨ln, hln, hlp, hll⟩ := nat_list hpm
      subst hln
      have hpw2 : ln.Pairwise (fun a b => depB n b ≤ depB n a) := by
        rw [List.pairwise_map] at hpw
        refine hpw.imp_of_mem (fun {a b} ha hb h9 => ?_)
        have haN := List.mem_range.1 (hlp.mem_iff.1 ha)
        have hbN := List.mem_range.1 (hlp.mem_iff.1 hb)
        rw [Int.toNat_natCast, Int.toNat_natCast, map_getD haN, map_getD hbN] at h9
        exact h9
      have hlO : (ln.map (fun k : Nat => (k : Int))).length = n.ends.length := by rw [List.length_map, hll]
      obtain ⟨AO, cO, rfl, -, -, -⟩ := id hoO.ints
      rw [hlO] at hoO
      obtain ⟨bO, oO, rfl, hcO⟩ := roots_cell hoO.ints hlO (by omega)
      rw [hlO]
      have Hq11 := Lib.hid (Since.after Hq10.out hb11)
      have H1011 := Lib.hid (show Since w10 w11 from hb11)
      have hoO2 := hoO
      have Hb0O : Hid (bO ≠ gs ∧ ∀ k x, (ln.map (fun k : Nat => (k : Int)))[k]? = some x → w11.cell? ⟨bO, oO + k, none⟩ = some (.int .i64 x)) := by
        refine ⟨?_, fun k x hx => hcO k x hx w11 (since_refl _)⟩
        have h7 := hoO.cases
        rcases h7 with ⟨h6, -⟩ | ⟨g7, c7, h6, h5, -⟩
        · cases h6
        · rw [hlO] at h6
          cases h6
          have := Hzs.out
          omega
      have Hln := Lib.hid (And.intro hlp (And.intro hll hpw2))
      clear hoO hoO2 hpm hpw hlp hll hpw2 hlO hcO hb11
      go_upto_region 13 with (fail)
      have hT := trB Hn.out
      have HT := Lib.hid hT
      clear hT
      go_loopw [57] (fun i wr => ∃ (k : Nat) (s : List Int), k ≤ n.ends.length ∧ i = .int .i64 k ∧ Szs n.ends.length (depB n) (parB n) (ln.take k) s ∧ Own wr wq.heap.size (.slice (some ⟨gs, 0, none⟩) n.ends.length cs) s ∧ Only [gs] w11 wr) (fun i _ => n.ends.length - (intOf i).toNat)
      case atStart => exact ⟨0, List.replicate n.ends.length 1, Nat.zero_le _, rfl, Szs.start _ _ _, (Own.since HoS.out H1011.out).mono (by have := Hzs.out; simp), Only.refl _ _⟩
      case round =>
        obtain ⟨k, s, hk, rfl, hsz, hos, hon⟩ := hrel
        have hsqr : Since wq wr := Only.since Hq11.out hon (fun j hj => by have := Hzs.out; simp at hj; omega)
        have hz := Hz4.out
        have hzs := Hzs.out
        have hwq : w4.heap.size ≤ wq.heap.size := HE.out.only.size
        have hpr := Own.since HP.out hsqr
        have cbs := hon.cell (p := ⟨bs, 0, none⟩) (by simp; omega) (Hcbs.out w11 H1011.out)
        have cbp := have_cell Hcb.out wr hsqr
        have Hsz := Lib.hid hsz
        have Hos := Lib.hid hos
        have Hon := Lib.hid hon
        have Hsqr := Lib.hid hsqr
        have Hpr := Lib.hid hpr
        have Hs0q := Lib.hid (Since.after Hs0r.out hsqr)
        have hne2 : gs ≠ gp := by omega
        clear hsz hos hon hpr hz hzs
        by_cases hlt : k < n.ends.length
        · have m3 : IntKind.i64.wrap ((k : Int) + 1) = (k : Int) + 1 := wr64 _ (by omega) (by omega)
          have hkl : k < ln.length := by rw [Hln.out.2.1]; exact hlt
          obtain ⟨hoc1, hoc2, hoc3, hoc4⟩ := order_child HT.out Hln.out.1 Hln.out.2.2 hkl
          have hck : (ln.map (fun k : Nat => (k : Int)))[k]? = some ((ln[k] : Nat) : Int) := by rw [List.getElem?_map, List.getElem?_eq_getElem hkl]; rfl
          have c0 := Hon.out.cell (p := ⟨bO, oO + k, none⟩) (by have := Hb0O.out.1; simp; omega) (Hb0O.out.2 k _ hck)
          obtain ⟨v, hv⟩ : ∃ z, z = ln[k] := ⟨_, rfl⟩
          have htk : ln.take (k + 1) = ln.take k ++ [v] := by rw [List.take_succ_eq_append_getElem hkl, ← hv]
          rw [← hv] at c0 hoc1 hoc3 hoc4
          have Hoc := Lib.hid (And.intro hoc1 (And.intro hoc2 (And.intro hoc3 htk)))
          have hvN := hoc4
          clear hoc1 hoc2 hoc3 hoc4 hck hv htk hkl
          have cv := Hpr.out.cell (k := v) (x := ptB n v) (by rw [List.getElem?_map, List.getElem?_range hvN]; rfl)
          obtain ⟨tv, htv⟩ : ∃ z, z = ptB n v := ⟨_, rfl⟩
          rw [← htv] at cv
          have Htv := Lib.hid htv
          clear htv
          by_cases hneg : tv < 0
          · have hpar : parB n v = none := by unfold parB; rw [← Htv.out, if_neg (by omega)]
            have hnx := Hsz.out.skip hpar
            rw [← Hoc.out.2.2.2] at hnx
            have Hnx := Lib.hid hnx
            have hng : ¬ (0 : Int) ≤ tv := by omega
            clear hpar hnx
            go_wp2
            go_roundw
            case rel => exact ⟨k + 1, s, by omega, by first | rfl | go_num, Hnx.out, Hos.out, Hon.out⟩
            case measure => simp [intOf]; omega
          · obtain ⟨q, rfl⟩ := Int.eq_ofNat_of_zero_le (show 0 ≤ tv by omega)
            obtain ⟨s1, s2, s3, s4, s5, s6⟩ := towB_step Hn.out (least_lt Hn.out hvN) (r := leastB n v) (v := v) (by have := Htv.out; unfold ptB at this; omega)
            have hpq : towB n (leastB n v) v = (q : Int) := Htv.out.symm
            rw [hpq] at s2 s6
            rw [Int.toNat_natCast] at s6
            obtain ⟨es, hes⟩ := getx n.ends v hvN
            rw [getD_of hes] at s6
            obtain ⟨e, he⟩ := getx es q s6
            have her := (netOk_row Hn.out hes).2 e (List.mem_of_getElem? he)
            obtain ⟨p, hp⟩ := Int.eq_ofNat_of_zero_le her.1
            have hnode : nodeAt n v (q : Int) = p := by unfold nodeAt; rw [getD_of hes, Int.toNat_natCast, getD_of he, hp]; exact Int.toNat_natCast p
            rw [hnode] at s2
            have hpar : parB n v = some p := by unfold parB; rw [← Htv.out, if_pos (by omega), hnode]
            have hnx := Hsz.out.step HT.out hvN Hoc.out.2.2.1 hpar Hoc.out.1 Hoc.out.2.1
            rw [← Hoc.out.2.2.2] at hnx
            have hb1 := szs_bd Hsz.out hvN
            have hb2 := szs_bd Hsz.out s2
            have hsl := Hsz.out.len
            have cp1 := Hos.out.cell (k := p) (x := s.getD p 0) (by rw [List.getD_eq_getElem?_getD, List.getElem?_eq_getElem (by omega)]; rfl)
            have cp2 := Hos.out.cell (k := v) (x := s.getD v 0) (by rw [List.getD_eq_getElem?_getD, List.getElem?_eq_getElem (by omega)]; rfl)
            have f1 := Hos.out.free p
            obtain ⟨zp, hzp⟩ : ∃ z, z = s.getD p 0 := ⟨_, rfl⟩
            obtain ⟨zv, hzv⟩ : ∃ z, z = s.getD v 0 := ⟨_, rfl⟩
            rw [← hzp] at cp1 hnx hb2
            rw [← hzv] at cp2 hnx hb1
            have m4 : IntKind.i64.wrap (zp + zv) = zp + zv := wr64 _ (by omega) (by omega)
            obtain ⟨bE, oE, cE, uE, hAE, -, hc1, hrow⟩ := row_at H.out.es hes
            obtain ⟨A9, y9, rfl, hz1, hz2, hA9⟩ := hrow
            obtain ⟨g1, o1, rfl, t1, t2⟩ := hA9 q e he
            rw [hp] at t1
            have d0 := p00 wr Hs0q.out
            have d1 := have_cell hc1 wr Hs0q.out
            have d2 := have_cell t1 wr Hs0q.out
            cases hAE
            have Hnx := Lib.hid hnx
            have hge : (0 : Int) ≤ (q : Int) := by omega
            unfold maxLen at hz2
            clear s1 s3 s4 s5 hes he her hp hnode hpar hnx hc1 t1 t2 hA9 hpq hb1 hb2 hzp hzv hsqr
            have E0 := have_cell d0
            have E1 := have_cell d1
            have E2 := have_cell d2
            have E3 := have_cell cbs
            have E4 := have_cell cbp
            have E5 := have_cell cv
            have E6 := have_cell cp1
            have E7 := have_cell cp2
            go_upto_region 16 with (fail)
            clear d0 d1 d2 cbs cbp cv cp1 cp2 f1 c0
            refine wp_region_flow 21 (Since wr) (by kernel_rfl) (by kernel_rfl) (by simp) (since_drew (since_refl _)) ?_
            simp only [List.take_succ_cons, List.take_zero, List.drop_succ_cons, List.drop_zero]
            refine flow_val (v := ?_) rfl ?_ ?_; rotate_left; (intro W hW; have k1 := E3 W hW; go_simp; with_reducible rfl)
            simp only [Act.put, List.setIfInBounds_toArray, List.set_cons_succ, List.set_cons_zero]
            refine flow_val (v := ?_) rfl ?_ ?_; rotate_left; (intro W hW; go_simp; with_reducible rfl)
            simp only [Act.put, List.setIfInBounds_toArray, List.set_cons_succ, List.set_cons_zero]
            refine flow_val (v := ?_) rfl ?_ ?_; rotate_left; (intro W hW; have k1 := E0 W hW; go_simp; with_reducible rfl)
            simp only [Act.put, List.setIfInBounds_toArray, List.set_cons_succ, List.set_cons_zero]
            refine flow_val (v := ?_) rfl ?_ ?_; rotate_left; (intro W hW; go_simp; with_reducible rfl)
            simp only [Act.put, List.setIfInBounds_toArray, List.set_cons_succ, List.set_cons_zero]
            refine flow_val (v := ?_) rfl ?_ ?_; rotate_left; (intro W hW; go_simp; with_reducible rfl)
            simp only [Act.put, List.setIfInBounds_toArray, List.set_cons_succ, List.set_cons_zero]
            refine flow_val (v := ?_) rfl ?_ ?_; rotate_left; (intro W hW; have k1 := E1 W hW; go_simp; with_reducible rfl)
            simp only [Act.put, List.setIfInBounds_toArray, List.set_cons_succ, List.set_cons_zero]
            refine flow_val (v := ?_) rfl ?_ ?_; rotate_left; (intro W hW; have k1 := E4 W hW; go_simp; with_reducible rfl)
            simp only [Act.put, List.setIfInBounds_toArray, List.set_cons_succ, List.set_cons_zero]
            refine flow_val (v := ?_) rfl ?_ ?_; rotate_left; (intro W hW; go_simp; with_reducible rfl)
            simp only [Act.put, List.setIfInBounds_toArray, List.set_cons_succ, List.set_cons_zero]
            refine flow_val (v := ?_) rfl ?_ ?_; rotate_left; (intro W hW; go_simp; with_reducible rfl)
            simp only [Act.put, List.setIfInBounds_toArray, List.set_cons_succ, List.set_cons_zero]
            refine flow_val (v := ?_) rfl ?_ ?_; rotate_left; (intro W hW; have k1 := E5 W hW; go_simp; with_reducible rfl)
            simp only [Act.put, List.setIfInBounds_toArray, List.set_cons_succ, List.set_cons_zero]
            refine flow_val (v := ?_) rfl ?_ ?_; rotate_left; (intro W hW; go_simp; with_reducible rfl)
            simp only [Act.put, List.setIfInBounds_toArray, List.set_cons_succ, List.set_cons_zero]
            refine flow_val (v := ?_) rfl ?_ ?_; rotate_left; (intro W hW; go_simp; with_reducible rfl)
            simp only [Act.put, List.setIfInBounds_toArray, List.set_cons_succ, List.set_cons_zero]
            refine flow_val (v := ?_) rfl ?_ ?_; rotate_left; (intro W hW; have k1 := E2 W hW; go_simp; with_reducible rfl)
            simp only [Act.put, List.setIfInBounds_toArray, List.set_cons_succ, List.set_cons_zero]
            refine flow_val (v := ?_) rfl ?_ ?_; rotate_left; (intro W hW; go_simp; with_reducible rfl)
            simp only [Act.put, List.setIfInBounds_toArray, List.set_cons_succ, List.set_cons_zero]
            refine flow_val (v := ?_) rfl ?_ ?_; rotate_left; (intro W hW; have k1 := E6 W hW; go_simp; with_reducible rfl)
            simp only [Act.put, List.setIfInBounds_toArray, List.set_cons_succ, List.set_cons_zero]
            refine flow_val (v := ?_) rfl ?_ ?_; rotate_left; (intro W hW; have k1 := E3 W hW; go_simp; with_reducible rfl)
            simp only [Act.put, List.setIfInBounds_toArray, List.set_cons_succ, List.set_cons_zero]
            refine flow_val (v := ?_) rfl ?_ ?_; rotate_left; (intro W hW; go_simp; with_reducible rfl)
            simp only [Act.put, List.setIfInBounds_toArray, List.set_cons_succ, List.set_cons_zero]
            refine flow_val (v := ?_) rfl ?_ ?_; rotate_left; (intro W hW; go_simp; with_reducible rfl)
            simp only [Act.put, List.setIfInBounds_toArray, List.set_cons_succ, List.set_cons_zero]
            refine flow_val (v := ?_) rfl ?_ ?_; rotate_left; (intro W hW; have k1 := E7 W hW; go_simp; with_reducible rfl)
            simp only [Act.put, List.setIfInBounds_toArray, List.set_cons_succ, List.set_cons_zero]
            refine flow_val (v := ?_) rfl ?_ ?_; rotate_left; (intro W hW; go_simp; with_reducible rfl)
            simp only [Act.put, List.setIfInBounds_toArray, List.set_cons_succ, List.set_cons_zero]
            refine flow_val (v := ?_) rfl ?_ ?_; rotate_left; (intro W hW; go_simp; with_reducible rfl)
            simp only [Act.put, List.setIfInBounds_toArray, List.set_cons_succ, List.set_cons_zero]
            intro W hW
            have hoW := Own.since Hos.out hW
            have cW := E6 W hW
            have fW := hoW.free p
            have Hset := Lib.hid (hoW.set (k := p) (zp + zv))
            have hon1 := Hon.out.trans (Only.of_below hW)
            have hon2 := hon1.setCell (p := ⟨gs, p, none⟩) (.inl (by simp)) (.int .i64 (zp + zv))
            have Hon2 := Lib.hid hon2
            clear E0 E1 E2 E3 E4 E5 E6 E7 hW hoW hon1 hon2
            go_wp2
            go_roundw
            case rel => exact ⟨k + 1, _, by omega, by first | rfl | go_num, Hnx.out, Hset.out, Hon2.out⟩
            case measure => simp [intOf]; omega
        · obtain rfl : k = n.ends.length := by omega
          have htl : ln.take n.ends.length = ln := List.take_of_length_le (by rw [Hln.out.2.1]; exact Nat.le_refl _)
          have hsz := Hsz.out
          rw [htl] at hsz
          have hwr : Since w wr := Since.after Hb0.out Hs0q.out
          have hN40 : n.ends.length ≤ 40 := by omega
          have hdl := distanceLabels_any _ _ _ n wr 104 105 #[] #[.pointer (some ⟨bp, 0, none⟩), .pointer (some ⟨w.heap.size, 0, none⟩), .pointer (some ⟨bs, 0, none⟩)] (leastB n) (evLab n) (H.out.keep Hs0q.out.below) Hn.out ev1_enters ev2_enters (fun v hv => ⟨least_lt Hn.out hv, fun W _ => evl1_any _ W⟩)
            (fun v hv W hW => evF_any Hn.out Hid0.out hN40 hsz Hln.out.1 (H.out.keep Hs0q.out.below).2.1 (have_cell cbp) Hpr.out (fun W hW => p01 W (Since.after Hs0q.out hW)) (have_cell cbs) Hos.out hv hW)
          have Hdl := Lib.hid hdl
          have Hwr := Lib.hid hwr
          have hs0z := Hs0q.out
          clear htl hsz hdl hwr cbs cbp hsqr hN40
          go_wp2_with fail
          refine Hdl.out.mono ?_
          rintro e w13 ⟨uZ, rfl, hoZ, hb13⟩
          obtain ⟨AZ, cZ, rfl, -, -, -⟩ := id hoZ.ints
          have HoZ := Lib.hid hoZ
          have Hs13' := Lib.hid (Since.after Hwr.out hb13)
          clear hoZ hb13 hs0z
          go_wp2
          go_ret
          exact ⟨_, rfl, by have h7 := HoZ.out.mono Hwr.out.below.size; rw [List.length_map, List.length_range] at h7; exact h7, Hs13'.out⟩
end Go.Proofs.YtfkmkpamdlhbgaaGreat
namespace Go.Proofs.YtfkmkpamdlhbgaaGreat
open Go.RowKit
/-! the closures of ProveProperty -/
theorem lead_row {n : Net} (h : leadAll n = true) {v : Nat} (hv : v < n.ends.length) : onesTo n (leastB n v) n.ends.length = [(leadOf n v).toNat] := by
  have h1 := List.all_eq_true.1 h v (List.mem_range.2 hv)
  unfold oneLead at h1
  have h1 := eq_of_beq h1
  unfold leadOf ownTo
  unfold onesOf at h1
  cases ho : onesTo n (leastB n v) n.ends.length with
  | nil => rw [ho] at h1; simp at h1
  | cons r l =>
    rw [ho] at h1
    have hl : l = [] := by simpa using h1
    subst hl
    simp
theorem pp1_enters : ∀ args w, (callFunc 52 args).run Tryz.prog w = .ok (.enter 52 args) w := enters_of Tryz.func52 (by kernel_rfl) rfl
theorem pp2_enters : ∀ args w, (callFunc 53 args).run Tryz.prog w = .ok (.enter 53 args) w := enters_of Tryz.func53 (by kernel_rfl) rfl
theorem pp3_enters : ∀ args w, (callFunc 55 args).run Tryz.prog w = .ok (.enter 55 args) w := enters_of Tryz.func55 (by kernel_rfl) rfl
theorem pp4_enters : ∀ args w, (callFunc 56 args).run Tryz.prog w = .ok (.enter 56 args) w := enters_of Tryz.func56 (by kernel_rfl) rfl
theorem ppl1_any (x : Int) (w : World) : Calls Tryz.prog 52 #[.int .i64 x] w fun e w' => e = .returned (.int .i64 x) ∧ Below w.heap.size w w' := by
  go_enter Tryz.func52, Tryz.ntmps52
  go_wp2
  go_ret
  exact ⟨rfl, Below.refl _ _⟩
theorem ppl2_any (x y z : Int) (w : World) : Calls Tryz.prog 53 #[.int .i64 x, .int .i64 y, .int .i64 z] w fun e w' => e = .returned (.int .i64 z) ∧ Below w.heap.size w w' := by
  go_enter Tryz.func53, Tryz.ntmps53
  go_wp2
  go_ret
  exact ⟨rfl, Below.refl _ _⟩
set_option maxRecDepth 100000 in
set_option maxHeartbeats 1600000 in
theorem ppl3_any (p r b bl g c N : Nat) (D : DataW Unit) (w : World) (hp : p ≤ 1000000) (h1 : w.cell? ⟨bl, 0, none⟩ = some (.map (some b))) (hm : w.ownsMap Tryz.prog 3 slD b N D)
    (hu : slD (.slice (some ⟨g, 0, none⟩) 1 c) = some (D.atKey (kI p) zD, [])) (h2 : w.cell? ⟨g, 0, none⟩ = some (.int .i64 r)) :
    Calls Tryz.prog 55 #[.int .i64 p, .pointer (some ⟨bl, 0, none⟩)] w fun e w' => e = .returned (.int .i64 r) ∧ Below w.heap.size w w' := by
  have Hm := Lib.hid hm
  have Hu := Lib.hid hu
  clear hm hu
  go_enter Tryz.func55, Tryz.ntmps55
  go_wp2_with (first | (at_lookup; refine look_row rfl _ _ rfl b N D rfl Hm.out p hp rfl _ Hu.out ?_))
  go_ret
  exact ⟨rfl, Below.refl _ _⟩
set_option maxRecDepth 100000 in
set_option maxHeartbeats 1600000 in
theorem ppl4_any (v r L b0 bI oI cI : Nat) (d idr : Int) (w : World) (hr : r < L)
    (h3 : w.cell? ⟨b0, 1, none⟩ = some (.slice (some ⟨bI, oI, none⟩) L cI)) (h4 : w.cell? ⟨bI, oI + r, none⟩ = some (.int .i64 idr))
    (hi : 1 ≤ idr ∧ idr ≤ 999999) (hd : -1 ≤ d ∧ d ≤ 100) :
    Calls Tryz.prog 56 #[.int .i64 v, .int .i64 r, .int .i64 d, .pointer (some ⟨b0, 0, none⟩)] w fun e w' => e = .returned (.int .i64 (idr * 100 + d)) ∧ Below w.heap.size w w' := by
  have a1 : IntKind.i64.wrap (idr * 100) = idr * 100 := wr64 _ (by omega) (by omega)
  have a2 : IntKind.i64.wrap (idr * 100 + d) = idr * 100 + d := wr64 _ (by omega) (by omega)
  clear hi hd
  go_enter Tryz.func56, Tryz.ntmps56
  go_wp2
  go_ret
  exact ⟨rfl, Below.refl _ _⟩
theorem ppR_any {n : Net} (hn : netOk n = true) (hl : leadAll n = true) {b bl B N : Nat} {D : DataW Unit} {U : Nat → Value} {w : World} (hm : w.ownsMap Tryz.prog 3 slD b N D) (hlm : LeadM n w B n.ends.length n.ends.length D U)
    (hc : w.cell? ⟨bl, 0, none⟩ = some (.map (some b))) {v : Nat} (hv : v < n.ends.length) :
    (leadOf n v).toNat < n.ends.length ∧ ∀ W, Since w W → Calls Tryz.prog 55 (#[.int .i64 (leastB n v)] ++ #[.pointer (some ⟨bl, 0, none⟩)]) W fun e w' => e = .returned (.int .i64 ((leadOf n v).toNat : Nat)) ∧ Below W.heap.size W w' := by
  obtain ⟨r, hr, hrl, -, -, -, -⟩ := lead_spec hn hl hv
  have hrow := lead_row hl hv
  rw [hr, Int.toNat_natCast] at hrow ⊢
  refine ⟨hrl, fun W hW => ?_⟩
  have hown := hlm.own (leastB n v)
  have hval := hlm.val (leastB n v)
  rw [hrow] at hown
  have hlen := least_lt hn hv
  have h40 := netOk_len hn
  rcases hown.cases with ⟨-, h9⟩ | ⟨g, c, hg, hg1, hg2⟩
  · cases h9
  have hg : U (leastB n v) = .slice (some ⟨g, 0, none⟩) 1 c := hg
  rw [hg] at hval hown
  have h2 := (Own.since hown hW).cell (k := 0) (x := (r : Int)) rfl
  exact ppl3_any _ r b bl g c N D W (by omega) (have_cell hc W hW) (Below.ownsMap hm hW) hval h2
theorem ppF_any {n : Net} (hn : netOk n = true) (h0 : n.ids.length ≠ 0) (hl : leadAll n = true) {b0 : Nat} {vi : Value} {w : World} (hi : IntS w vi n.ids) (h1 : ∀ W, Since w W → W.cell? ⟨b0, 1, none⟩ = some vi) {v : Nat} (hv : v < n.ends.length) {W : World} (hW : Since w W) :
    Calls Tryz.prog 56 (#[.int .i64 v, .int .i64 ((leadOf n v).toNat : Nat), .int .i64 (distI n (leadOf n v).toNat v)] ++ #[.pointer (some ⟨b0, 0, none⟩)]) W fun e w' => e = .returned (.int .i64 (leLab n v)) ∧ Below W.heap.size W w' := by
  obtain ⟨r, hr, hrl, -, -, -, -⟩ := lead_spec hn hl hv
  unfold leLab
  rw [hr, Int.toNat_natCast]
  have hrid := id_rng hn h0
  have hrl2 : r < n.ids.length := by rw [hrid.1]; exact hrl
  have hN := netOk_len hn
  obtain ⟨bI, oI, cI, hAI, hcI⟩ := ids_cell hi hrl2
  subst hAI
  have hdb := distI_bd hn hrl hv
  exact ppl4_any v r n.ids.length b0 bI oI cI (distI n r v) (n.ids.getD r 0) W hrl2 (h1 W hW) (hcI W hW) (hrid.2 _ hrl) (by omega)
end Go.Proofs.YtfkmkpamdlhbgaaGreat
namespace Go.Proofs.YtfkmkpamdlhbgaaGreat
open Go.RowKit
/-! threeColouring, with its colours -/
set_option maxRecDepth 100000 in
set_option maxHeartbeats 8000000 in
theorem threeColouring_list (ve vi vn : Value) (n : Net) (w : World) (h : NetIn w ve vi vn n) (hn : netOk n = true) :
    Calls Tryz.prog 50 #[.agg #[ve, vi, vn]] w fun e w' => ∃ U, e = .returned (.tuple #[U, .bool (tcAll n).isSome]) ∧ (∀ l, tcAll n = some (some l) → Own w' w.heap.size U l) ∧ Below w.heap.size w w' := by
  have hn40 := netOk_len hn
  have hn1 := hn40.1
  have hn2 := hn40.2
  clear hn40
  have HRow : Hid (∀ (k : Nat) (es : List (Int × Int)), n.ends[k]? = some es → es.length ≤ 6 ∧ ∀ e ∈ es, 0 ≤ e.1 ∧ e.1 < n.ends.length) := fun (k : Nat) (es : List (Int × Int)) he => netOk_row hn he
  clear hn
  obtain ⟨R, hR⟩ : ∃ R, R = tcAll n := ⟨_, rfl⟩
  rw [← hR]
  have HR := Lib.hid hR
  clear hR
  obtain ⟨w0, hw0⟩ : ∃ w0, w0 = (w).alloc (.cells #[ve, vi, vn] 27) := ⟨_, rfl⟩
  have hb0 : Below w.heap.size w w0 := by rw [hw0]; exact ((Below.refl _ _).alloc (by simp) _)
  have H := Lib.hid (h.keep hb0)
  obtain ⟨h1, h2, h3⟩ := h.keep hb0
  obtain ⟨A, c, rfl, hlc, hm, hA⟩ := h1
  obtain ⟨A2, c2, rfl, _, hm2, _⟩ := h2
  obtain ⟨A3, c3, rfl, _, hm3, _⟩ := h3
  unfold maxLen at hm hm2 hm3
  have p00 : ∀ W, Since w0 W → W.cell? ⟨w.heap.size, 0, none⟩ = some (.slice A n.ends.length c) := have_cell (by rw [hw0]; simp)
  have p01 : ∀ W, Since w0 W → W.cell? ⟨w.heap.size, 1, none⟩ = some (.slice A2 n.ids.length c2) := have_cell (by rw [hw0]; simp)
  have p02 : ∀ W, Since w0 W → W.cell? ⟨w.heap.size, 2, none⟩ = some (.slice A3 n.inputs.length c3) := have_cell (by rw [hw0]; simp)
  have Hb0 := Lib.hid hb0
  have Hw0 := Lib.hid hw0
  have HA := Lib.hid hA
  clear hA h
  clear hb0 hw0
  have hs0 : Since w0 w0 := since_refl _
  go_enter Tryz.func50, Tryz.ntmps50
  go_upto_region 1 with (fail)
  rw [← Hw0.out]
  go_wp2_with fail
  refine (noMatching_any _ _ _ n w0 H.out hn1 (by omega)).mono ?_
  rintro e w1 ⟨u, rfl, ho, hb1⟩
  obtain ⟨g, cU, rfl, hUl, hUm⟩ : ∃ g cU, u = .slice (some ⟨g, 0, none⟩) n.ends.length cU ∧ n.ends.length ≤ cU ∧ cU ≤ maxLen := by
    rcases ownsRow_cases ho with ⟨h0, h0'⟩ | ⟨g, cc, h0, _, _, h3, h4⟩
    · rw [List.length_replicate] at h0'; omega
    · rw [List.length_replicate] at h0 h3; exact ⟨g, cc, h0, h3, h4⟩
  unfold maxLen at hUm
  have Ho1 := Lib.hid ho
  have Hgr := Lib.hid (World.ownsRow.lt ho g (by simp [Value.ownBlock])).1
  have HS1 := Lib.hid (hs0.trans hb1)
  clear ho hb1 hs0
  go_wp2
  go_loopw [5, 6] (fun us uv wr => ∃ (l : List Int) (v : Int) (s f : Nat), us = .int .i64 (s : Int) ∧ uv = .int .i64 v ∧ Own wr w0.heap.size (.slice (some ⟨g, 0, none⟩) n.ends.length cU) l ∧ TcSt n l v s f ∧ tcRun n f l v s = R ∧ Since w0 wr) (fun us uv _ => tcMu (intOf uv) (intOf us).toNat)
  case atStart => exact ⟨_, 0, 0, 400002, rfl, rfl, Ho1.out, tc_start, HR.out.symm, HS1.out⟩
  case round =>
    obtain ⟨l, v, s, f, rfl, rfl, ho, hst, hrun, hsr⟩ := hrel
    have Ho := Lib.hid ho
    have Hst := Lib.hid hst
    have Hrun := Lib.hid hrun
    have hlen := hst.len
    have hlo := hst.lo
    have hhi := hst.hi
    have hss := hst.st
    clear ho hrun hst
    by_cases hv : (n.ends.length : Int) ≤ v
    · have hr : Hid (R = some (some l)) := by show _ = _; rw [← Hrun.out]; exact tc_done Hst.out hv
      have HS := Lib.hid hsr
      obtain rfl : v = (n.ends.length : Int) := by omega
      clear hsr hv hlo hhi hss
      go_wp2
      go_ret2
      exact ⟨_, by rw [hr.out]; rfl, fun l2 hl2 => by
        rw [hr.out] at hl2
        injection hl2 with hl2
        injection hl2 with hl2
        subst hl2
        exact Ho.out.mono Hb0.out.size, Since.after Hb0.out HS.out⟩
    · by_cases hv0 : v < 0
      · have hr : Hid (R = some none) := by show _ = _; rw [← Hrun.out]; exact tc_none Hst.out (by omega) hv0
        have HS := Lib.hid hsr
        have hvl : v < (n.ends.length : Int) := by omega
        clear hsr hv hlo hhi hss
        go_wp2
        go_ret2
        exact ⟨_, by rw [hr.out]; rfl, fun l2 hl2 => (by rw [hr.out] at hl2; cases hl2), Since.after Hb0.out HS.out⟩
      · obtain ⟨k, rfl⟩ := Int.eq_ofNat_of_zero_le (show 0 ≤ v by omega)
        have hk : k < n.ends.length := by omega
        obtain ⟨x, hx⟩ := getx l k (by omega)
        have hxr := Hst.out.rng x (List.mem_of_getElem? hx)
        obtain ⟨f', rfl⟩ := tc_fuel Hst.out
        have cz := Ho.out.cell hx
        have fz := Ho.out.free k
        have Hx := Lib.hid hx
        have m1 : IntKind.i64.wrap ((k : Int) - 1) = (k : Int) - 1 := wr64 _ (by omega) (by omega)
        have m2 : IntKind.i64.wrap (x + 1) = x + 1 := wr64 _ (by omega) (by omega)
        have m3 : IntKind.i64.wrap ((s : Int) + 1) = (s : Int) + 1 := wr64 _ (by omega) (by omega)
        have m4 : IntKind.i64.wrap ((k : Int) + 1) = (k : Int) + 1 := wr64 _ (by omega) (by omega)
        clear hx hv hv0 hlo hhi
        by_cases h2 : x = 2
        · subst h2
          have Hb := Lib.hid (tc_back Hst.out hk Hx.out)
          clear m2 m3 m4 hxr
          go_wp2
          go_roundw
          case rel => exact ⟨l.set k (-1), (k : Int) - 1, s, f', rfl, by first | rfl | go_num, Ho.out.set (k := k) (-1), Hb.out.2, by rw [← Hb.out.1]; exact Hrun.out, hsr.setCell Hgr.out _⟩
          case measure => (simp [intOf, tcMu]; try omega)
        · have h2' : (x = 2) = False := by simp [h2]
          have h2b : (x == 2) = false := by simp [h2]
          by_cases hs : s = 200000
          · have hr : Hid (R = none) := by show _ = _; rw [← Hrun.out]; subst hs; exact tc_stop Hst.out hk Hx.out h2
            have HS := Lib.hid hsr
            have hs1 : ((s : Int) = 200000) = True := by simp; omega
            have hs2 : (s = 200000) = True := by simp [hs]
            have hs3 : ((s : Int) == 200000) = true := by simp; omega
            clear hsr m1 m2 m3 m4 hxr h2 hs hss
            go_wp2
            go_ret2
            exact ⟨_, by rw [hr.out]; rfl, fun l2 hl2 => (by rw [hr.out] at hl2; cases hl2), Since.after Hb0.out HS.out⟩
          · have hs' : ((s : Int) = 200000) = False := by simp; omega
            have hs2 : (s = 200000) = False := by simp [hs]
            have hs3 : ((s : Int) == 200000) = false := by simp; omega
            have Hg := Lib.hid (tc_go Hst.out hk Hx.out h2 hs)
            have Hs := Lib.hid hs
            clear h2 hs hxr
            obtain ⟨es, hes⟩ := getx n.ends k hk
            obtain ⟨r1, r2⟩ := HRow.out k es hes
            have Hes := Lib.hid hes
            have Hr1 := Lib.hid r1
            have Hr2 := Lib.hid r2
            clear hes r1 r2
            go_upto_region 14 with (fail)
            obtain ⟨l2, hl2⟩ : ∃ l2, l2 = l.set k (x + 1) := ⟨_, rfl⟩
            rw [← hl2] at Hg
            obtain ⟨W0, hW0⟩ : ∃ W0, W0 = wr.setCell ⟨g, k, none⟩ (.int .i64 (x + 1)) := ⟨_, rfl⟩
            rw [← hW0]
            have Ho2 : Hid (Own W0 w0.heap.size (.slice (some ⟨g, 0, none⟩) n.ends.length cU) l2) := by show Own _ _ _ _; rw [hW0, hl2]; exact Ho.out.set (k := k) (x + 1)
            have hl2l : l2.length = n.ends.length := by rw [hl2, List.length_set]; exact hlen
            have hx2 : l2[k]? = some (x + 1) := by rw [hl2, List.getElem?_set_self (by omega)]
            have HS0 : Hid (Since w0 W0) := by show Since _ _; rw [hW0]; exact hsr.setCell Hgr.out _
            have c2 := have_cell (Ho2.out.cell hx2)
            have HIl := Lib.hid (show ∀ X, Since W0 X → IntS X (.slice (some ⟨g, 0, none⟩) n.ends.length cU) l2 from fun X hX => by have := (Own.since Ho2.out hX).ints; exact this)
            have t0 := lift_cell p00 HS0.out
            have t1 := lift_cell p01 HS0.out
            have t2 := lift_cell p02 HS0.out
            have hz : Since W0 W0 := since_refl _
            have Hl2l := Lib.hid hl2l
            have Hx2 := Lib.hid hx2
            have Hgd := Lib.hid (show tcGood n l2 k = !(hasB (nearB l2 es) (x + 1)) by unfold tcGood hasB; rw [getD_of Hes.out, getD_of hx2])
            have HP := Lib.hid (And.intro p00 (And.intro p01 p02))
            clear hW0 hl2 hl2l hx2 hsr cz fz p00 p01 p02
            refine wp_region_chain (w0 := W0) 9 [false, false, false, true, false, false, false, false, true] (by kernel_rfl) (by kernel_rfl) (hz) ?_
            simp only [selF, selT, List.take_succ_cons, List.take_zero, List.drop_succ_cons, List.drop_zero]
            refine pflow_val (v := ?_) rfl ?_ ?_; rotate_left; (intro W hW; go_simp; with_reducible rfl)
            simp only [Act.put, List.setIfInBounds_toArray, List.set_cons_succ, List.set_cons_zero]
            refine pflow_val (v := ?_) rfl ?_ ?_; rotate_left; (intro W hW; go_simp; with_reducible rfl)
            simp only [Act.put, List.setIfInBounds_toArray, List.set_cons_succ, List.set_cons_zero]
            refine pflow_val (v := ?_) rfl ?_ ?_; rotate_left; (intro W hW; go_simp; with_reducible rfl)
            simp only [Act.put, List.setIfInBounds_toArray, List.set_cons_succ, List.set_cons_zero]
            refine pflow_val (v := ?_) rfl ?_ ?_; rotate_left; (intro W hW; go_simp; with_reducible rfl)
            simp only [Act.put, List.setIfInBounds_toArray, List.set_cons_succ, List.set_cons_zero]
            refine pflow_val (v := ?_) rfl ?_ ?_; rotate_left; (intro W hW; go_simp; with_reducible rfl)
            simp only [Act.put, List.setIfInBounds_toArray, List.set_cons_succ, List.set_cons_zero]
            refine pflow_val (v := ?_) rfl ?_ ?_; rotate_left; (intro W hW; go_simp; with_reducible rfl)
            simp only [Act.put, List.setIfInBounds_toArray, List.set_cons_succ, List.set_cons_zero]
            refine pflow_val (v := ?_) rfl ?_ ?_; rotate_left; (intro W hW; go_simp; with_reducible rfl)
            simp only [Act.put, List.setIfInBounds_toArray, List.set_cons_succ, List.set_cons_zero]
            intro W hW
            refine Or.inl ⟨rfl, ?_⟩
            go_simp
            (with_reducible refine (near_any _ _ _ _ n l2 k es W (H.out.keep (HS0.out.after hW).below) (HIl.out W hW) Hes.out (by have := Hr1.out; omega) (by rw [Hl2l.out]; exact Hr2.out)).mono ?_)
            rintro e W' ⟨un, rfl, hon, hbn⟩
            refine ⟨_, rfl, hW.trans hbn, ?_⟩
            replace hW := hW.trans hbn
            have Hon := Lib.hid hon.ints; clear hon hbn
            (try simp only [Act.put, List.setIfInBounds_toArray, List.set_cons_succ, List.set_cons_zero])
            refine Or.inl ⟨rfl, ?_⟩
            go_simp
            (with_reducible refine (containsI_any _ (nearB l2 es) (x + 1) _ Hon.out).mono ?_)
            rintro e W' ⟨rfl, rfl⟩
            refine ⟨_, rfl, hW, ?_⟩
            replace hW := hW
            skip
            (try simp only [Act.put, List.setIfInBounds_toArray, List.set_cons_succ, List.set_cons_zero])
            simp only [TFlow]
            have Ho3 := Lib.hid (Own.since Ho2.out hW)
            have HS3 := Lib.hid (HS0.out.after hW)
            obtain ⟨p00, p01, p02⟩ := HP.out
            cases hb : hasB (nearB l2 es) (x + 1)
            · have hgt : tcGood n l2 k = true := by rw [Hgd.out, hb]; rfl
              rw [hgt] at Hg
              clear hW hz t0 t1 t2 c2 hb m1 m2 m3
              go_wp2
              go_roundw
              case rel => exact ⟨l2, (k : Int) + 1, s + 1, f', by go_num, by first | rfl | go_num, Ho3.out, by have := Hg.out.2; simpa using this, by have := Hg.out.1; simp at this; rw [← this]; exact Hrun.out, HS3.out⟩
              case measure => (have := Hs.out; have := Hst.out.st; simp [intOf, tcMu]; try omega)
            · have hgt : tcGood n l2 k = false := by rw [Hgd.out, hb]; rfl
              rw [hgt] at Hg
              clear hW hz t0 t1 t2 c2 hb m1 m2 m3
              go_wp2
              go_roundw
              case rel => exact ⟨l2, (k : Int), s + 1, f', by go_num, by first | rfl | go_num, Ho3.out, by have := Hg.out.2; simpa using this, by have := Hg.out.1; simp at this; rw [← this]; exact Hrun.out, HS3.out⟩
              case measure => (have := Hs.out; have := Hst.out.st; simp [intOf, tcMu]; try omega)
end Go.Proofs.YtfkmkpamdlhbgaaGreat
namespace Go.Proofs.YtfkmkpamdlhbgaaGreat
open Go.RowKit
/-! the program's ProveProperty -/
set_option maxRecDepth 100000 in
set_option maxHeartbeats 8000000 in
theorem fnExactProveProperty_impl (ve vi vn : Value) (n : Net) (s : Int) (w : World) (h : NetIn w ve vi vn n) (hs : -9223372036854775808 ≤ s ∧ s ≤ 9223372036854775807) (hsz : szNet n ≤ 1048576) :
    Calls Tryz.prog 21 #[.agg #[ve, vi, vn], .int .i64 s] w fun e w' => ∃ u, e = .returned (.tuple #[u, .bool (fnExactProveProperty_r1 n s)]) ∧ Own w' w.heap.size u (fnExactProveProperty_d n s) ∧ Below w.heap.size w w' := by
  have Hsz := Lib.hid hsz
  have Hsb := Lib.hid hs
  clear hsz hs
  obtain ⟨w0, hw0⟩ : ∃ w0, w0 = (w).alloc (.cells #[ve, vi, vn] 27) := ⟨_, rfl⟩
  have hb0 : Below w.heap.size w w0 := by rw [hw0]; exact ((Below.refl _ _).alloc (by simp) _)
  have H := Lib.hid (h.keep hb0)
  obtain ⟨h1, h2, h3⟩ := h.keep hb0
  obtain ⟨A, c, rfl, hlc, hm, hA⟩ := h1
  obtain ⟨A2, c2, rfl, _, hm2, _⟩ := h2
  obtain ⟨A3, c3, rfl, _, hm3, _⟩ := h3
  unfold maxLen at hm hm2 hm3
  have p00 : ∀ W, Since w0 W → W.cell? ⟨w.heap.size, 0, none⟩ = some (.slice A n.ends.length c) := have_cell (by rw [hw0]; simp)
  have p01 : ∀ W, Since w0 W → W.cell? ⟨w.heap.size, 1, none⟩ = some (.slice A2 n.ids.length c2) := have_cell (by rw [hw0]; simp)
  have p02 : ∀ W, Since w0 W → W.cell? ⟨w.heap.size, 2, none⟩ = some (.slice A3 n.inputs.length c3) := have_cell (by rw [hw0]; simp)
  have Hb0 := Lib.hid hb0
  have Hw0 := Lib.hid hw0
  have HA := Lib.hid hA
  clear hA h
  clear hb0 hw0
  obtain ⟨r0, hr0⟩ : ∃ r, fnExactHasProperty_r0 n s = r := ⟨_, rfl⟩
  obtain ⟨r1, hr1⟩ : ∃ r, fnExactHasProperty_r1 n s = r := ⟨_, rfl⟩
  obtain ⟨q1, hq1⟩ : ∃ r, fnExactProveProperty_r1 n s = r := ⟨_, rfl⟩
  have ht := pp_test n s
  rw [hr0, hr1, hq1] at ht
  have Hr0 := Lib.hid hr0
  have Hr1 := Lib.hid hr1
  have Hq1 := Lib.hid hq1
  have Ht := Lib.hid ht
  rw [hq1]
  clear hr0 hr1 hq1 ht
  go_enter Tryz.func21, Tryz.ntmps21
  go_upto_region 1 with (fail)
  rw [← Hw0.out]
  have hs0 : Since w0 w0 := since_refl _
  go_wp2_with fail
  refine (fnExactHasProperty_impl _ _ _ n s w0 H.out Hsb.out Hsz.out).mono ?_
  rintro e w1 ⟨rfl, hb1⟩
  rw [Hr0.out, Hr1.out]
  have hs1 : Since w0 w1 := hb1
  have Hs1 := Lib.hid hs1
  clear hb1 hs0
  cases q1
  · have hd : fnExactProveProperty_d n s = [] := by unfold fnExactProveProperty_d; rw [Hq1.out]; rfl
    have Hd := Lib.hid hd
    clear hd
    have hr : r1 = false ∨ (r1 = true ∧ r0 = false) := by have := Ht.out; revert this; cases r0 <;> cases r1 <;> simp
    rcases hr with rfl | ⟨rfl, rfl⟩
    · go_wp2
      go_ret2
      rw [Hd.out]
      exact ⟨_, rfl, own_nil _ _, Since.trans Hb0.out Hs1.out⟩
    · go_wp2
      go_ret2
      rw [Hd.out]
      exact ⟨_, rfl, own_nil _ _, Since.trans Hb0.out Hs1.out⟩
  · have hd : fnExactProveProperty_d n s = ppL n s := by unfold fnExactProveProperty_d; rw [Hq1.out]; rfl
    have hq := Hq1.out
    unfold fnExactProveProperty_r1 hpOk at hq
    rw [Bool.and_eq_true, Bool.and_eq_true, inB_iff] at hq
    have Hn := Lib.hid hq.1.1
    have hsr := hq.1.2
    have Hh := Lib.hid hq.2
    have Hd := Lib.hid hd
    obtain ⟨rfl, rfl⟩ : r0 = true ∧ r1 = true := by have := Ht.out; revert this; cases r0 <;> cases r1 <;> simp
    clear hd hq Hr0 Hr1 Ht Hq1
    by_cases h1 : s = 1
    · subst h1
      have hbip : bipB n = true := by have := Hh.out; unfold hasB2 at this; rwa [if_pos rfl] at this
      have Hpl : Hid (ppL n 1 = twoB n) := by show _ = _; unfold ppL; rw [if_pos rfl, if_pos hbip]
      have Hbip := Lib.hid hbip
      clear hbip
      go_wp2_with fail
      refine (twoColouring_any _ _ _ n w1 (H.out.keep Hs1.out.below) Hn.out).mono ?_
      rintro e w2 ⟨u, rfl, ho, hb2⟩
      rw [if_pos Hbip.out] at ho
      rw [Hbip.out]
      obtain ⟨AU, cU, rfl, -, -, -⟩ := id ho.ints
      have Ho := Lib.hid ho
      have Hs2 := Lib.hid (Since.after Hs1.out hb2)
      clear ho hb2 hs1
      go_wp2
      go_ret2
      rw [Hd.out, Hpl.out]
      exact ⟨_, rfl, Ho.out.mono (Nat.le_trans Hb0.out.size Hs1.out.below.size), Since.trans Hb0.out Hs2.out⟩
    by_cases h2 : s = 2
    · subst h2
      have hh := Hh.out
      unfold hasB2 at hh
      rw [if_neg (by decide), if_pos rfl] at hh
      cases hR : tcAll n with
      | none => rw [hR] at hh; cases hh
      | some R =>
        cases R with
        | none => rw [hR] at hh; cases hh
        | some l =>
          have Hpl : Hid (ppL n 2 = l) := by show _ = _; unfold ppL; rw [if_neg (by decide), if_pos rfl, hR]
          have HR := Lib.hid hR
          clear hR hh
          go_wp2_with fail
          refine (threeColouring_list _ _ _ n w1 (H.out.keep Hs1.out.below) Hn.out).mono ?_
          rintro e w2 ⟨u, rfl, ho, hb2⟩
          have ho := ho l HR.out
          rw [HR.out]
          obtain ⟨AU, cU, rfl, -, -, -⟩ := id ho.ints
          have Ho := Lib.hid ho
          have Hs2 := Lib.hid (Since.after Hs1.out hb2)
          clear ho hb2 hs1
          go_wp2
          go_ret2
          rw [Hd.out, Hpl.out]
          exact ⟨_, rfl, Ho.out.mono (Nat.le_trans Hb0.out.size Hs1.out.below.size), Since.trans Hb0.out Hs2.out⟩
    by_cases h3 : s = 3
    · subst h3
      have Hpl : Hid (ppL n 3 = (List.range n.ends.length).map (depB n)) := by show _ = _; unfold ppL; rw [if_neg (by decide), if_neg (by decide), if_pos rfl]
      have Hdl := Lib.hid (distanceLabels_any _ _ _ n w1 52 53 #[] #[] (leastB n) (depB n) (H.out.keep Hs1.out.below) Hn.out pp1_enters pp2_enters (fun v hv => ⟨least_lt Hn.out hv, fun W _ => ppl1_any _ W⟩) (fun v hv W _ => ppl2_any _ _ _ W))
      go_wp2_with fail
      refine Hdl.out.mono ?_
      rintro e w2 ⟨u, rfl, ho, hb2⟩
      obtain ⟨AU, cU, rfl, -, -, -⟩ := id ho.ints
      have Ho := Lib.hid ho
      have Hs2 := Lib.hid (Since.after Hs1.out hb2)
      clear ho hb2 hs1
      go_wp2
      go_ret2
      rw [Hd.out, Hpl.out]
      exact ⟨_, rfl, by have h7 := Ho.out.mono (Nat.le_trans Hb0.out.size Hs1.out.below.size); rw [List.length_map, List.length_range] at h7; exact h7, Since.trans Hb0.out Hs2.out⟩
    have hid : n.ids.length ≠ 0 := fun e => by
      have := Hh.out
      unfold hasB2 at this
      rw [if_neg h1, if_neg h2, if_neg h3, if_pos e] at this
      cases this
    by_cases h4 : s = 4
    · subst h4
      have hld : leadAll n = true := by have := Hh.out; unfold hasB2 at this; rwa [if_neg h1, if_neg h2, if_neg h3, if_neg hid, if_pos rfl] at this
      have Hpl : Hid (ppL n 4 = (List.range n.ends.length).map (leLab n)) := by show _ = _; unfold ppL; rw [if_neg (by decide), if_neg (by decide), if_neg (by decide), if_pos rfl]
      have Hid0 := Lib.hid hid
      have Hld := Lib.hid hld
      clear hid hld h1 h2 h3
      go_wp2_with fail
      refine (leaders_any _ _ _ n w1 (H.out.keep Hs1.out.below) Hn.out).mono ?_
      rintro e w3 ⟨b, D, U, rfl, hm, hlm, hbb, hb⟩
      obtain ⟨w4, hw4⟩ : ∃ z, z = w3.alloc (.cells #[.map (some b)] 82) := ⟨_, rfl⟩
      obtain ⟨bl, hbl⟩ : ∃ z, z = w3.heap.size := ⟨_, rfl⟩
      have hs34 : Since w3 w4 := by rw [hw4]; exact since_alloc _ (since_refl _)
      have hcl : w4.cell? ⟨bl, 0, none⟩ = some (.map (some b)) := by rw [hw4, hbl]; simp
      have hm4 := Below.ownsMap hm hs34
      have hlm4 : LeadM n w4 (b + 1) n.ends.length n.ends.length D U := hlm.stable (fun j _ hj => hs34.block j hj)
      have hs4 : Since w0 w4 := Since.after (Since.after Hs1.out hb) hs34
      have hdl := distanceLabels_any _ _ _ n w4 55 56 #[.pointer (some ⟨bl, 0, none⟩)] #[.pointer (some ⟨w.heap.size, 0, none⟩)] (fun v => (leadOf n v).toNat) (leLab n) (H.out.keep hs4.below) Hn.out pp3_enters pp4_enters
        (fun v hv => ppR_any Hn.out Hld.out hm4 hlm4 hcl hv) (fun v hv W hW => ppF_any Hn.out Hid0.out Hld.out (H.out.keep hs4.below).2.1 (fun W hW => p01 W (Since.after hs4 hW)) hv hW)
      have Hdl := Lib.hid hdl
      have Hs4 := Lib.hid hs4
      have Hw4 := Lib.hid hw4
      have Hbl := Lib.hid hbl
      have hs3 : Since w0 w3 := Since.after Hs1.out hb
      clear hdl hs34 hcl hm4 hlm4 hm hlm hbb hb hw4 hbl hs1
      go_upto_region 13 with (fail)
      rw [← Hw4.out, ← Hbl.out]
      clear hs3
      go_wp2_with fail
      refine Hdl.out.mono ?_
      rintro e w5 ⟨u, rfl, ho, hb5⟩
      obtain ⟨AU, cU, rfl, -, -, -⟩ := id ho.ints
      have Ho := Lib.hid ho
      have Hs5 := Lib.hid (Since.after Hs4.out hb5)
      clear ho hb5 hs4
      go_wp2
      go_ret2
      rw [Hd.out, Hpl.out]
      exact ⟨_, rfl, by have h7 := Ho.out.mono (Nat.le_trans Hb0.out.size Hs4.out.below.size); rw [List.length_map, List.length_range] at h7; exact h7, Since.trans Hb0.out Hs5.out⟩
    obtain rfl : s = 5 := by omega
    have Hpl : Hid (ppL n 5 = (List.range n.ends.length).map (evLab n)) := by show _ = _; unfold ppL; rw [if_neg (by decide), if_neg (by decide), if_neg (by decide), if_neg (by decide)]
    have Hid0 := Lib.hid hid
    clear hid h1 h2 h3 h4
    go_wp2_with fail
    refine (evenLabels_any _ _ _ n w1 (H.out.keep Hs1.out.below) Hn.out Hid0.out).mono ?_
    rintro e w2 ⟨u, rfl, ho, hb2⟩
    obtain ⟨AU, cU, rfl, -, -, -⟩ := id ho.ints
    have Ho := Lib.hid ho
    have Hs2 := Lib.hid (Since.after Hs1.out hb2)
    clear ho hb2 hs1
    go_wp2
    go_ret2
    rw [Hd.out, Hpl.out]
    exact ⟨_, rfl, by have h7 := Ho.out.mono (Nat.le_trans Hb0.out.size Hs1.out.below.size); rw [List.length_map, List.length_range] at h7; exact h7, Since.trans Hb0.out Hs2.out⟩
end Go.Proofs.YtfkmkpamdlhbgaaGreat
namespace Go.Proofs.YtfkmkpamdlhbgaaGreat
open Go.RowKit
/-! how many labels -/
theorem ppL_len {n : Net} (hn : netOk n = true) (s : Int) (hh : hasB2 n s = true) : (ppL n s).length ≤ n.ends.length := by
  unfold ppL
  by_cases e1 : s = 1
  · subst e1
    rw [if_pos rfl]
    by_cases hb : bipB n = true
    · rw [if_pos hb, twoB_len]; exact Nat.le_refl _
    · rw [if_neg hb]; simp
  · rw [if_neg e1]
    by_cases e2 : s = 2
    · subst e2
      rw [if_pos rfl]
      cases hR : tcAll n with
      | none => simp
      | some R =>
        cases R with
        | none => simp
        | some l => exact Nat.le_of_eq (tcAll_good hn hR).2
    · rw [if_neg e2]
      by_cases e3 : s = 3
      · rw [if_pos e3]; simp
      · rw [if_neg e3]
        by_cases e4 : s = 4
        · rw [if_pos e4]; simp
        · rw [if_neg e4]; simp
theorem fnExactProveProperty_dl (n : Net) (s : Int) (_ : szNet n ≤ 1048576) : (fnExactProveProperty_d n s).length ≤ 4611686018427387904 := by
  unfold fnExactProveProperty_d
  by_cases h : fnExactProveProperty_r1 n s = true
  · rw [if_pos h]
    unfold fnExactProveProperty_r1 hpOk at h
    rw [Bool.and_eq_true, Bool.and_eq_true] at h
    have h1 := ppL_len h.1.1 s h.2
    have h2 := netOk_len h.1.1
    omega
  · rw [if_neg h]; simp
end Go.Proofs.YtfkmkpamdlhbgaaGreat
