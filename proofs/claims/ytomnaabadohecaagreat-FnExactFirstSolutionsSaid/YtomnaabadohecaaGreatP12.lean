/- Parts of the proof: walks of functions and plain laws. -/
import Derived.Test.YtomnaabadohecaaGreatP10
import Derived.Test.YtomnaabadohecaaGreatP11
namespace Go.Proofs.YtomnaabadohecaaGreat
open Go.RowKit
/-! the search for a configuration -/
theorem bs_lo {l : List (List Int)} {t x : List Int} {q i : Nat} (hs : Strict l) (hx : l[q]? = some x) (h : cmpL x t < 0) (_ : i ≤ q) : ∀ (k : Nat) (y : List Int), k < q + 1 → l[k]? = some y → cmpL y t < 0 := by
  intro k y hk hy
  rcases Nat.lt_or_ge k q with h1 | h1
  · exact cmpL_lt_trans (hs k q y x h1 hy hx) h
  · obtain rfl : k = q := by omega
    rw [hx] at hy; cases hy; exact h
theorem bs_hi {l : List (List Int)} {t x : List Int} {q : Nat} (hs : Strict l) (hx : l[q]? = some x) (h : 0 ≤ cmpL x t) : ∀ (k : Nat) (y : List Int), q ≤ k → l[k]? = some y → 0 ≤ cmpL y t := by
  intro k y hk hy
  refine Int.not_lt.1 fun hn => ?_
  replace h := Int.not_lt.2 h
  rcases Nat.lt_or_ge q k with h1 | h1
  · exact h (cmpL_lt_trans (hs q k x y h1 hx hy) hn)
  · obtain rfl : k = q := by omega
    rw [hx] at hy; cases hy; exact h hn
theorem ret_ib {a b : Int} {c d : Bool} (h1 : a = b) (h2 : c = d) : Ending.returned (.tuple #[.int .i64 a, .bool c]) = .returned (.tuple #[.int .i64 b, .bool d]) := by rw [h1, h2]
theorem l1LeastS_any (a b : Int) (w : World) : Calls Tryz.prog 260 #[.int .i64 a, .int .i64 b] w fun e w' => e = .returned (.int .i64 (min a b)) ∧ w = w' := by
  by_cases h : a < b
  · have hm : min a b = a := by omega
    rw [hm]
    go_enter Tryz.func260, Tryz.ntmps260
    go_wp2
    go_ret
    exact ⟨rfl, rfl⟩
  · have hm : min a b = b := by omega
    rw [hm]
    go_enter Tryz.func260, Tryz.ntmps260
    go_wp2
    go_ret
    exact ⟨rfl, rfl⟩
theorem compare_enters : ∀ args w, (callFunc 229 args).run Tryz.prog w = .ok (.enter 229 args) w := enters_of Tryz.func229 (by kernel_rfl) rfl
set_option maxHeartbeats 4000000 in
theorem bsearch_any (v u : Value) (l : List (List Int)) (t : List Int) (w : World) (h : IntSS w v l) (h' : IntS w u t) (hs : Strict l) (hbl : l.length ≤ 1048576) :
    Calls Tryz.prog 286 #[v, u, .func (.func 229) #[] #[]] w fun e w' => ∃ i : Int, e = .returned (.tuple #[.int .i64 i, .bool (l.contains t)]) ∧ Below w.heap.size w w' := by
  have H := Lib.hid h
  have H2 := Lib.hid h'
  have Hs := Lib.hid hs
  obtain ⟨A, c, rfl, hlc, hm, -⟩ := h
  obtain ⟨A2, c2, rfl, hlc2, hm2, -⟩ := h'
  unfold maxLen at hm hm2
  have hm4 : l.length < 4611686018427387904 := by omega
  have eg := compare_enters
  clear hs
  go_enter Tryz.func286, Tryz.ntmps286
  go_wp2
  go_loopw [9, 10] (fun a b wr => ∃ i j : Nat, i ≤ j ∧ j ≤ l.length ∧ a = .int .i64 i ∧ b = .int .i64 j ∧ ((∀ (k : Nat) (x : List Int), k < i → l[k]? = some x → cmpL x t < 0) ∧ (∀ (k : Nat) (x : List Int), j ≤ k → l[k]? = some x → 0 ≤ cmpL x t)) ∧ Below w.heap.size w wr) (fun a b _ => (intOf b).toNat - (intOf a).toNat)
  case atStart => exact ⟨0, l.length, Nat.zero_le _, Nat.le_refl _, rfl, rfl, ⟨fun k x hk => by omega, fun k x hk hx => by have := lt_of_get hx; omega⟩, Below.refl _ _⟩
  case round =>
    obtain ⟨i, j, hij, hj, rfl, rfl, hI, hb⟩ := hrel
    have HI := Lib.hid hI
    have Hb := Lib.hid hb
    clear hI hb
    by_cases hlt : i < j
    · have hq : (i + j) / 2 < l.length := by omega
      obtain ⟨x, b, off, A1, z, hx, rfl, hc1, hz1, hz2, hxs⟩ := rows_get H.out (k := (i + j) / 2) hq
      have hc := bc Hb.out hc1
      have Hx := Lib.hid hx
      have HX := Lib.hid (hxs.keep Hb.out)
      have HT := Lib.hid (H2.out.keep Hb.out)
      obtain ⟨cv, hcv⟩ : ∃ cv, cmpL x t = cv := ⟨_, rfl⟩
      have Hcv := Lib.hid hcv
      clear hx hxs hc1 hcv
      by_cases hneg : cv < 0
      · go_wp2_with fail
        refine (slicesCompare_any _ _ x t _ HX.out HT.out).mono ?_
        rw [Hcv.out]
        rintro e w1 ⟨rfl, hb1⟩
        have HB1 := Lib.hid (Hb.out.trans (hb1.mono Hb.out.size))
        clear hb1
        go_wp2
        go_roundw
        case rel => exact ⟨(i + j) / 2 + 1, j, by omega, hj, by go_num, rfl, ⟨bs_lo Hs.out Hx.out (by rw [Hcv.out]; exact hneg) (Nat.le_refl _), HI.out.2⟩, HB1.out⟩
        case measure => simp [intOf]; omega
      · go_wp2_with fail
        refine (slicesCompare_any _ _ x t _ HX.out HT.out).mono ?_
        rw [Hcv.out]
        rintro e w1 ⟨rfl, hb1⟩
        have HB1 := Lib.hid (Hb.out.trans (hb1.mono Hb.out.size))
        clear hb1
        go_wp2
        go_roundw
        case rel => exact ⟨i, (i + j) / 2, by omega, by omega, rfl, by go_num, ⟨HI.out.1, bs_hi Hs.out Hx.out (by rw [Hcv.out]; omega)⟩, HB1.out⟩
        case measure => simp [intOf]; omega
    · obtain rfl : i = j := by omega
      obtain ⟨r, hr⟩ : ∃ r, l.contains t = r := ⟨_, rfl⟩
      have Hr := Lib.hid hr
      clear hr
      have hf := Lib.hid (find_iff Hs.out HI.out.1 (fun k x h1 h2 => Int.not_lt.2 (HI.out.2 k x h1 h2)))
      by_cases hin : i < l.length
      · obtain ⟨x, b, off, A1, z, hx, rfl, hc1, hz1, hz2, hxs⟩ := rows_get H.out hin
        have hc := bc Hb.out hc1
        have Hf : Hid ((cmpL x t == 0) = l.contains t) := by have := hf.out; rw [hx] at this; exact this
        have HX := Lib.hid (hxs.keep Hb.out)
        have HT := Lib.hid (H2.out.keep Hb.out)
        obtain ⟨cv, hcv⟩ : ∃ cv, cmpL x t = cv := ⟨_, rfl⟩
        have Hcv := Lib.hid hcv
        clear hx hxs hc1 hcv hf
        go_wp2_with fail
        refine (slicesCompare_any _ _ x t _ HX.out HT.out).mono ?_
        rw [Hcv.out]
        rintro e w1 ⟨rfl, hb1⟩
        have HB1 := Lib.hid (Hb.out.trans (hb1.mono Hb.out.size))
        clear hb1
        go_wp2
        go_ret2
        exact ⟨(i : Int), ret_ib rfl (by rw [← Hf.out, Hcv.out]), HB1.out⟩
      · have Hf : Hid (false = l.contains t) := by have := hf.out; rw [List.getElem?_eq_none (by omega)] at this; exact this
        clear hf
        go_wp2
        go_ret2
        exact ⟨(i : Int), ret_ib rfl (by rw [← Hf.out]), Hb.out⟩
set_option maxHeartbeats 1000000 in
theorem hasCfg_any (v u : Value) (l : List (List Int)) (xs : List Int) (w : World) (h : IntSS w v l) (h' : IntS w u xs) (hs : Strict l) (hbl : l.length ≤ 1048576) (hl : xs.length ≤ 1000) :
    Calls Tryz.prog 266 #[v, u] w fun e w' => e = .returned (.bool (l.contains (sortI xs))) ∧ Below w.heap.size w w' := by
  have H := Lib.hid h
  have H2 := Lib.hid h'
  have Hs := Lib.hid hs
  obtain ⟨A2, c2, rfl, hlc2, hm2, -⟩ := h'
  clear h hs
  go_enter Tryz.func266, Tryz.ntmps266
  go_wp2_with (go_at_call 288; refine (callsIn_wide.1 (values_in 1 _ _ _ _)).mono ?_; rintro e w1 ⟨rfl, hw1⟩; have Hw1 := Lib.hid hw1; clear hw1)
  have hb1 : Below w.heap.size w w1 := by rw [Hw1.out]; exact below_alloc _ _
  have hc1 : w1.cell? ⟨w.heap.size, 0, none⟩ = some (.slice A2 xs.length c2) := by rw [Hw1.out]; simp
  have Hb1 := Lib.hid hb1
  have Hc1 := Lib.hid hc1
  clear hb1 hc1 Hw1
  go_wp2_with fail
  refine (callsIn_wide.1 (sorted_in 5 (by omega) w.heap.size _ xs _ Hc1.out (H2.out.keep Hb1.out) hl)).mono ?_
  rintro e w2 ⟨s, rfl, ho, hb2⟩
  have Hb2 := Lib.hid (Hb1.out.trans (hb2.mono Hb1.out.size))
  have Ho := Lib.hid ho.ints
  clear hb2 ho
  go_wp2_with fail
  obtain ⟨r, hr⟩ : ∃ r, l.contains (sortI xs) = r := ⟨_, rfl⟩
  have Hr := Lib.hid hr
  clear hr
  refine (bsearch_any v s l (sortI xs) _ (H.out.keep Hb2.out) Ho.out Hs.out hbl).mono ?_
  rw [Hr.out]
  rintro e w3 ⟨i, rfl, hb3⟩
  have Hb3 := Lib.hid (Hb2.out.trans (hb3.mono Hb2.out.size))
  clear hb3
  go_wp2
  go_ret
  exact ⟨ret_bool Hr.out.symm, Hb3.out⟩
theorem ints_pair {w : World} {b : Nat} {x y : Int} (h0 : w.cell? ⟨b, 0, none⟩ = some (.int .i64 x)) (h1 : w.cell? ⟨b, 1, none⟩ = some (.int .i64 y)) : IntS w (.slice (some ⟨b, 0, none⟩) 2 2) [x, y] := by
  refine ⟨_, 2, rfl, Nat.le_refl _, by unfold maxLen; omega, fun k z hk => ⟨b, 0, rfl, ?_⟩⟩
  match k, hk with
  | 0, hk => simp at hk; subst hk; exact h0
  | 1, hk => simp at hk; subst hk; exact h1
  | k + 2, hk => simp at hk
theorem ints_new2 (W : World) (x y : Int) : IntS (W.alloc (.cells #[.int .i64 x, .int .i64 y] 3)) (.slice (some ⟨W.heap.size, 0, none⟩) 2 2) [x, y] := ints_pair (by simp) (by simp)
set_option maxHeartbeats 1000000 in
theorem edge_any (pa pb : Value) (p : Prob) (a b : Int) (w : World) (h : PrIn w pa pb p) (hs : Strict p.edges) (hbl : p.edges.length ≤ 1048576) :
    Calls Tryz.prog 231 #[.agg #[.int .i64 p.labels, .int .i64 p.degree, pa, pb], .int .i64 a, .int .i64 b] w fun e w' => e = .returned (.bool (edgeB p a b)) ∧ Below w.heap.size w w' := by
  obtain ⟨w0, hw0⟩ : ∃ w0, w0 = (w).alloc (.cells #[.int .i64 p.labels, .int .i64 p.degree, pa, pb] 74) := ⟨_, rfl⟩
  have hb0 : Below w.heap.size w w0 := by rw [hw0]; exact ((Below.refl _ _).alloc (by simp) _)
  have hkP := h.keep hb0
  have HP := Lib.hid hkP
  obtain ⟨P0, pz0, rfl, hlP0, hmP0, hPe0⟩ := id hkP.1
  unfold maxLen at hmP0
  have HPe0 := Lib.hid hPe0
  clear hPe0
  obtain ⟨P1, pz1, rfl, hlP1, hmP1, hPe1⟩ := id hkP.2
  unfold maxLen at hmP1
  have HPe1 := Lib.hid hPe1
  clear hPe1
  clear hkP h
  have p00 : ∀ W, Since w0 W → W.cell? ⟨w.heap.size, 0, none⟩ = some (.int .i64 p.labels) := have_cell (by rw [hw0]; simp)
  have p01 : ∀ W, Since w0 W → W.cell? ⟨w.heap.size, 1, none⟩ = some (.int .i64 p.degree) := have_cell (by rw [hw0]; simp)
  have p02 : ∀ W, Since w0 W → W.cell? ⟨w.heap.size, 2, none⟩ = some (.slice P0 p.nodes.length pz0) := have_cell (by rw [hw0]; simp)
  have p03 : ∀ W, Since w0 W → W.cell? ⟨w.heap.size, 3, none⟩ = some (.slice P1 p.edges.length pz1) := have_cell (by rw [hw0]; simp)
  have Hb0 := Lib.hid hb0
  have Hw0 := Lib.hid hw0
  clear hb0 hw0
  have Hs := Lib.hid hs
  clear hs
  have HPp1 := Lib.hid (show ∀ X, Since w0 X → IntSS X (.slice P1 p.edges.length pz1) p.edges from fun X hX => (HP.out.keep hX).2)
  go_enter Tryz.func231, Tryz.ntmps231
  go_upto_region 1 with (fail)
  rw [← Hw0.out]
  have hs0 : Since w0 w0 := since_refl _
  go_wp2_with fail
  refine (hasCfg_any _ _ p.edges [a, b] _ (HPp1.out _ (since_alloc _ hs0)) (ints_new2 w0 a b) Hs.out hbl (by simp)).mono ?_
  rw [sort_pair]
  obtain ⟨r, hr⟩ : ∃ r, edgeB p a b = r := ⟨_, rfl⟩
  have Hr := Lib.hid hr
  clear hr
  rw [show p.edges.contains [min a b, max a b] = r from Hr.out]
  rintro e w1 ⟨rfl, hb1⟩
  have HS := Lib.hid (Since.trans (since_alloc (.cells #[.int .i64 a, .int .i64 b] 3) hs0) hb1)
  clear hb1 hs0
  go_wp2
  go_ret
  exact ⟨ret_bool Hr.out.symm, Since.after Hb0.out HS.out⟩
set_option maxRecDepth 100000 in
set_option maxHeartbeats 4000000 in
theorem prEdge_any (pa pb : Value) (p : Prob) (a b : Int) (w : World) (h : PrIn w pa pb p) (_ : Strict p.edges) (_ : p.edges.length ≤ 1048576) :
    Calls Tryz.prog 227 #[.agg #[.int .i64 p.labels, .int .i64 p.degree, pa, pb], .int .i64 a, .int .i64 b] w fun e w' => e = .returned (.bool (edgeB p a b)) ∧ Below w.heap.size w w' := by
  obtain ⟨w0, hw0⟩ : ∃ w0, w0 = (w).alloc (.cells #[.int .i64 p.labels, .int .i64 p.degree, pa, pb] 74) := ⟨_, rfl⟩
  have hb0 : Below w.heap.size w w0 := by rw [hw0]; exact ((Below.refl _ _).alloc (by simp) _)
  have hkP := h.keep hb0
  have HP := Lib.hid hkP
  obtain ⟨P0, pz0, rfl, hlP0, hmP0, hPe0⟩ := id hkP.1
  unfold maxLen at hmP0
  have HPe0 := Lib.hid hPe0
  clear hPe0
  obtain ⟨P1, pz1, rfl, hlP1, hmP1, hPe1⟩ := id hkP.2
  unfold maxLen at hmP1
  have HPe1 := Lib.hid hPe1
  clear hPe1
  clear hkP h
  have p00 : ∀ W, Since w0 W → W.cell? ⟨w.heap.size, 0, none⟩ = some (.int .i64 p.labels) := have_cell (by rw [hw0]; simp)
  have p01 : ∀ W, Since w0 W → W.cell? ⟨w.heap.size, 1, none⟩ = some (.int .i64 p.degree) := have_cell (by rw [hw0]; simp)
  have p02 : ∀ W, Since w0 W → W.cell? ⟨w.heap.size, 2, none⟩ = some (.slice P0 p.nodes.length pz0) := have_cell (by rw [hw0]; simp)
  have p03 : ∀ W, Since w0 W → W.cell? ⟨w.heap.size, 3, none⟩ = some (.slice P1 p.edges.length pz1) := have_cell (by rw [hw0]; simp)
  have Hb0 := Lib.hid hb0
  have Hw0 := Lib.hid hw0
  clear hb0 hw0
  have HPp1 := Lib.hid (show ∀ X, Since w0 X → IntSS X (.slice P1 p.edges.length pz1) p.edges from fun X hX => (HP.out.keep hX).2)
  go_enter Tryz.func227, Tryz.ntmps227
  go_upto_region 1 with (fail)
  rw [← Hw0.out]
  refine wp_region_dfl (w0 := w0) [fun V W => V 0 = .pointer (some ⟨w.heap.size, 3, none⟩), fun V W => V 1 = .slice P1 p.edges.length pz1, fun V W => V 2 = .int .i64 a, fun V W => V 3 = .int .i64 b, fun V W => V 4 = .int .i64 (min a b), fun V W => V 5 = .int .i64 a, fun V W => V 6 = .int .i64 b, fun V W => V 7 = .int .i64 (max a b), fun V W => IntS W (V 8) [min a b, max a b], fun V W => V 9 = .bool (edgeB p a b), fun V W => V 10 = .bool (edgeB p a b)] ?_ ?_ 11 (by kernel_rfl) (by kernel_rfl) (by kernel_rfl) (since_refl _) ?_ ?_
  · intro r hr V W W' h hs
    simp only [List.mem_cons, List.not_mem_nil, or_false] at hr
    rcases hr with rfl | rfl | rfl | rfl | rfl | rfl | rfl | rfl | rfl | rfl | rfl
    · exact h
    · exact h
    · exact h
    · exact h
    · exact (h)
    · exact h
    · exact h
    · exact (h)
    · exact (h.keep hs)
    · exact (h)
    · exact (h)
  · intro j r hj V V' W h1 h2 h
    match j, hj with
    | 0, hj =>
      obtain rfl := Option.some.inj hj
      have h3 : V 0 = .pointer (some ⟨w.heap.size, 3, none⟩) := h
      show V' 0 = .pointer (some ⟨w.heap.size, 3, none⟩)
      rw [← h1]
      exact h3
    | 1, hj =>
      obtain rfl := Option.some.inj hj
      have h3 : V 1 = .slice P1 p.edges.length pz1 := h
      show V' 1 = .slice P1 p.edges.length pz1
      rw [← h1]
      exact h3
    | 2, hj =>
      obtain rfl := Option.some.inj hj
      have h3 : V 2 = .int .i64 a := h
      show V' 2 = .int .i64 a
      rw [← h1]
      exact h3
    | 3, hj =>
      obtain rfl := Option.some.inj hj
      have h3 : V 3 = .int .i64 b := h
      show V' 3 = .int .i64 b
      rw [← h1]
      exact h3
    | 4, hj =>
      obtain rfl := Option.some.inj hj
      have h3 : V 4 = .int .i64 (min a b) := h
      show V' 4 = .int .i64 (min a b)
      rw [← h1]
      exact h3
    | 5, hj =>
      obtain rfl := Option.some.inj hj
      have h3 : V 5 = .int .i64 a := h
      show V' 5 = .int .i64 a
      rw [← h1]
      exact h3
    | 6, hj =>
      obtain rfl := Option.some.inj hj
      have h3 : V 6 = .int .i64 b := h
      show V' 6 = .int .i64 b
      rw [← h1]
      exact h3
    | 7, hj =>
      obtain rfl := Option.some.inj hj
      have h3 : V 7 = .int .i64 (max a b) := h
      show V' 7 = .int .i64 (max a b)
      rw [← h1]
      exact h3
    | 8, hj =>
      obtain rfl := Option.some.inj hj
      have h3 : IntS W (V 8) [min a b, max a b] := h
      show IntS W (V' 8) [min a b, max a b]
      rw [← h1]
      exact h3
    | 9, hj =>
      obtain rfl := Option.some.inj hj
      have h3 : V 9 = .bool (edgeB p a b) := h
      show V' 9 = .bool (edgeB p a b)
      rw [← h1]
      exact h3
    | 10, hj =>
      obtain rfl := Option.some.inj hj
      have h3 : V 10 = .bool (edgeB p a b) := h
      show V' 10 = .bool (edgeB p a b)
      rw [← h1]
      exact h3
    | j + 11, hj => simp at hj
  · intro i o hi ho V W hW hd
    match i, ho with
    | 0, ho =>
      cases ho
      clear hd hi
      refine ⟨rfl, ?_⟩
      simp only [putAll, show List.range 11 = [0, 1, 2, 3, 4, 5, 6, 7, 8, 9, 10] from rfl, List.getElem?_toArray, List.getElem?_cons_succ, List.getElem?_cons_zero]
      (try simp only [Act.put, List.setIfInBounds_toArray, List.set_cons_succ, List.set_cons_zero])
      refine dstep_val (u := .pointer (some ⟨w.heap.size, 3, none⟩)) (W' := W) (by go_simp) ⟨since_refl _, ?_⟩
      exact upd_self V 0 _
    | 1, ho =>
      cases ho
      have e0 : V 0 = .pointer (some ⟨w.heap.size, 3, none⟩) := hd 0 (by decide +kernel)
      clear hd hi
      refine ⟨rfl, ?_⟩
      simp only [putAll, show List.range 11 = [0, 1, 2, 3, 4, 5, 6, 7, 8, 9, 10] from rfl, List.getElem?_toArray, List.getElem?_cons_succ, List.getElem?_cons_zero]
      (try simp only [Act.put, List.setIfInBounds_toArray, List.set_cons_succ, List.set_cons_zero])
      refine dstep_val (u := .slice P1 p.edges.length pz1) (W' := W) (by go_simp) ⟨since_refl _, ?_⟩
      exact upd_self V 1 _
    | 2, ho =>
      cases ho
      clear hd hi
      refine ⟨rfl, ?_⟩
      simp only [putAll, show List.range 11 = [0, 1, 2, 3, 4, 5, 6, 7, 8, 9, 10] from rfl, List.getElem?_toArray, List.getElem?_cons_succ, List.getElem?_cons_zero]
      (try simp only [Act.put, List.setIfInBounds_toArray, List.set_cons_succ, List.set_cons_zero])
      refine dstep_val (u := .int .i64 a) (W' := W) (by go_simp) ⟨since_refl _, ?_⟩
      exact upd_self V 2 _
    | 3, ho =>
      cases ho
      clear hd hi
      refine ⟨rfl, ?_⟩
      simp only [putAll, show List.range 11 = [0, 1, 2, 3, 4, 5, 6, 7, 8, 9, 10] from rfl, List.getElem?_toArray, List.getElem?_cons_succ, List.getElem?_cons_zero]
      (try simp only [Act.put, List.setIfInBounds_toArray, List.set_cons_succ, List.set_cons_zero])
      refine dstep_val (u := .int .i64 b) (W' := W) (by go_simp) ⟨since_refl _, ?_⟩
      exact upd_self V 3 _
    | 4, ho =>
      cases ho
      have e2 : V 2 = .int .i64 a := hd 2 (by decide +kernel)
      have e3 : V 3 = .int .i64 b := hd 3 (by decide +kernel)
      clear hd hi
      refine ⟨rfl, ?_⟩
      simp only [putAll, show List.range 11 = [0, 1, 2, 3, 4, 5, 6, 7, 8, 9, 10] from rfl, List.getElem?_toArray, List.getElem?_cons_succ, List.getElem?_cons_zero]
      (try simp only [Act.put, List.setIfInBounds_toArray, List.set_cons_succ, List.set_cons_zero])
      unfold DStep
      go_simp
      (with_reducible refine (l1LeastS_any a b W).mono ?_)
      rintro e W1 ⟨rfl, rfl⟩
      refine ⟨_, rfl, since_refl _, ?_⟩
      exact upd_self V 4 _
    | 5, ho =>
      cases ho
      clear hd hi
      refine ⟨rfl, ?_⟩
      simp only [putAll, show List.range 11 = [0, 1, 2, 3, 4, 5, 6, 7, 8, 9, 10] from rfl, List.getElem?_toArray, List.getElem?_cons_succ, List.getElem?_cons_zero]
      (try simp only [Act.put, List.setIfInBounds_toArray, List.set_cons_succ, List.set_cons_zero])
      refine dstep_val (u := .int .i64 a) (W' := W) (by go_simp) ⟨since_refl _, ?_⟩
      exact upd_self V 5 _
    | 6, ho =>
      cases ho
      clear hd hi
      refine ⟨rfl, ?_⟩
      simp only [putAll, show List.range 11 = [0, 1, 2, 3, 4, 5, 6, 7, 8, 9, 10] from rfl, List.getElem?_toArray, List.getElem?_cons_succ, List.getElem?_cons_zero]
      (try simp only [Act.put, List.setIfInBounds_toArray, List.set_cons_succ, List.set_cons_zero])
      refine dstep_val (u := .int .i64 b) (W' := W) (by go_simp) ⟨since_refl _, ?_⟩
      exact upd_self V 6 _
    | 7, ho =>
      cases ho
      have e5 : V 5 = .int .i64 a := hd 5 (by decide +kernel)
      have e6 : V 6 = .int .i64 b := hd 6 (by decide +kernel)
      clear hd hi
      refine ⟨rfl, ?_⟩
      simp only [putAll, show List.range 11 = [0, 1, 2, 3, 4, 5, 6, 7, 8, 9, 10] from rfl, List.getElem?_toArray, List.getElem?_cons_succ, List.getElem?_cons_zero]
      (try simp only [Act.put, List.setIfInBounds_toArray, List.set_cons_succ, List.set_cons_zero])
      unfold DStep
      go_simp
      (with_reducible refine (l1Most_any a b W).mono ?_)
      rintro e W1 ⟨rfl, rfl⟩
      refine ⟨_, rfl, since_refl _, ?_⟩
      exact upd_self V 7 _
    | 8, ho =>
      cases ho
      have e4 : V 4 = .int .i64 (min a b) := hd 4 (by decide +kernel)
      have e7 : V 7 = .int .i64 (max a b) := hd 7 (by decide +kernel)
      clear hd hi
      refine ⟨rfl, ?_⟩
      simp only [putAll, show List.range 11 = [0, 1, 2, 3, 4, 5, 6, 7, 8, 9, 10] from rfl, List.getElem?_toArray, List.getElem?_cons_succ, List.getElem?_cons_zero]
      (try simp only [Act.put, List.setIfInBounds_toArray, List.set_cons_succ, List.set_cons_zero])
      refine dstep_val (u := .slice (some ⟨W.heap.size, 0, none⟩) 2 2) (W' := W.alloc (.cells #[.int .i64 (min a b), .int .i64 (max a b)] 3)) (by rw [e4, e7]; go_simp) ⟨since_alloc _ (since_refl _), ?_⟩
      show IntS _ (upd V 8 _ 8) _
      rw [upd_self]
      exact ints_new2 W _ _
    | 9, ho =>
      cases ho
      have e1 : V 1 = .slice P1 p.edges.length pz1 := hd 1 (by decide +kernel)
      have e8 : IntS W (V 8) [min a b, max a b] := hd 8 (by decide +kernel)
      clear hd hi
      refine ⟨rfl, ?_⟩
      simp only [putAll, show List.range 11 = [0, 1, 2, 3, 4, 5, 6, 7, 8, 9, 10] from rfl, List.getElem?_toArray, List.getElem?_cons_succ, List.getElem?_cons_zero]
      (try simp only [Act.put, List.setIfInBounds_toArray, List.set_cons_succ, List.set_cons_zero])
      unfold DStep
      have E8 := Lib.hid e8
      clear e8
      go_simp
      (with_reducible refine (prHas_any _ _ p.edges _ W (HPp1.out W hW) E8.out).mono ?_)
      rintro e W1 ⟨rfl, hb⟩
      refine ⟨_, rfl, hb, ?_⟩
      exact upd_self V 9 _
    | 10, ho =>
      cases ho
      have e9 : V 9 = .bool (edgeB p a b) := hd 9 (by decide +kernel)
      clear hd hi
      refine ⟨rfl, ?_⟩
      simp only [putAll, show List.range 11 = [0, 1, 2, 3, 4, 5, 6, 7, 8, 9, 10] from rfl, List.getElem?_toArray, List.getElem?_cons_succ, List.getElem?_cons_zero]
      (try simp only [Act.put, List.setIfInBounds_toArray, List.set_cons_succ, List.set_cons_zero])
      refine dstep_val (u := .bool (edgeB p a b)) (W' := W) (by rw [e9]; go_simp) ⟨since_refl _, ?_⟩
      exact upd_self V 10 _
    | i + 11, ho => omega
  intro V W hW hV
  have e0 : V 0 = .pointer (some ⟨w.heap.size, 3, none⟩) := hV 0 (by decide)
  have e1 : V 1 = .slice P1 p.edges.length pz1 := hV 1 (by decide)
  have e2 : V 2 = .int .i64 a := hV 2 (by decide)
  have e3 : V 3 = .int .i64 b := hV 3 (by decide)
  have e4 : V 4 = .int .i64 (min a b) := hV 4 (by decide)
  have e5 : V 5 = .int .i64 a := hV 5 (by decide)
  have e6 : V 6 = .int .i64 b := hV 6 (by decide)
  have e7 : V 7 = .int .i64 (max a b) := hV 7 (by decide)
  have e8 : IntS W (V 8) [min a b, max a b] := hV 8 (by decide)
  have e9 : V 9 = .bool (edgeB p a b) := hV 9 (by decide)
  have e10 : V 10 = .bool (edgeB p a b) := hV 10 (by decide)
  clear hV
  simp only [putAll, show List.range 11 = [0, 1, 2, 3, 4, 5, 6, 7, 8, 9, 10] from rfl, List.getElem?_toArray, List.getElem?_cons_succ, List.getElem?_cons_zero]
  (try simp only [Act.put, List.setIfInBounds_toArray, List.set_cons_succ, List.set_cons_zero])
  simp only [List.drop_succ_cons, List.drop_zero]
  have HS := Lib.hid hW
  rw [e10]
  go_wp2
  go_ret
  exact ⟨rfl, Since.after Hb0.out HS.out⟩
end Go.Proofs.YtomnaabadohecaaGreat
namespace Go.Proofs.YtomnaabadohecaaGreat
open Go.RowKit
/-! the test at a node -/
section
variable {α : Type} {p : α → Bool} {xs : List α}
theorem fiL_none (h : xs.any p = false) : xs.findIdx? p = none := by
  rw [List.findIdx?_eq_none_iff]
  intro x hx
  rw [List.any_eq_false] at h
  simpa using h x hx
theorem fiL_found {k : Nat} {x : α} (hx : xs[k]? = some x) (hp : p x = true) (h : (xs.take k).any p = false) : xs.findIdx? p = some k := by
  obtain ⟨hk, rfl⟩ := List.getElem?_eq_some_iff.1 hx
  rw [List.findIdx?_eq_some_iff_getElem]
  refine ⟨hk, hp, fun j hj => ?_⟩
  rw [List.any_eq_false] at h
  exact h _ (List.mem_take_iff_getElem.2 ⟨j, by omega, rfl⟩)
theorem anyL_snoc {k : Nat} {x : α} (hx : xs[k]? = some x) (h : (xs.take k).any p = false) (hp : p x = false) : (xs.take (k + 1)).any p = false := by
  rw [take_snoc hx, List.any_append, h]
  simp [hp]
end
def rix (p : List Int → Bool) (xs : List (List Int)) : Int := match xs.findIdx? p with | some k => (k : Int) | none => -1
theorem rix_any (p : List Int → Bool) (xs : List (List Int)) : decide (0 ≤ rix p xs) = xs.any p := by
  unfold rix
  cases h : xs.findIdx? p with
  | none =>
    rw [List.findIdx?_eq_none_iff] at h
    simp only [decide_eq_false_iff_not.2 (show ¬ (0 : Int) ≤ -1 by omega)]
    symm
    rw [List.any_eq_false]
    intro x hx; simp [h x hx]
  | some i =>
    rw [List.findIdx?_eq_some_iff_getElem] at h
    obtain ⟨hi, hp, _⟩ := h
    simp only [Int.natCast_nonneg, decide_true]
    symm
    rw [List.any_eq_true]
    exact ⟨xs[i], List.getElem_mem hi, hp⟩
def PredL (w0 : World) (fid : FuncId) (caps : Array Value) (p : List Int → Bool) (xs : List (List Int)) : Prop :=
  ∀ c ∈ xs, ∀ u w, Since w0 w → IntS w u c → Calls Tryz.prog fid (#[u] ++ caps) w fun e w' => e = .returned (.bool (p c)) ∧ Below w.heap.size w w'
set_option maxHeartbeats 4000000 in
theorem indexFuncL_any (v : Value) (cs : List (List Int)) (fid : FuncId) (caps : Array Value) (p : List Int → Bool) (w : World) (h : IntSS w v cs) (henter : ∀ args w, (callFunc fid args).run Tryz.prog w = .ok (.enter fid args) w) (hp : PredL w fid caps p cs) :
    Calls Tryz.prog 234 #[v, .func (.func fid) #[] caps] w fun e w' => e = .returned (.int .i64 (rix p cs)) ∧ Below w.heap.size w w' := by
  have H := Lib.hid h
  obtain ⟨A, c, rfl, hlc, hm, -⟩ := h
  unfold maxLen at hm
  have Hp := Lib.hid hp
  have eg := henter
  clear hp
  go_enter Tryz.func234, Tryz.ntmps234
  go_wp2
  go_loopw [8] (fun i wr => ∃ k : Nat, k ≤ cs.length ∧ i = .int .i64 k ∧ (cs.take k).any p = false ∧ Since w wr) (fun i _ => cs.length - (intOf i).toNat)
  case atStart => exact ⟨0, Nat.zero_le _, rfl, rfl, since_refl _⟩
  case round =>
    obtain ⟨k, hk, rfl, hany, hb⟩ := hrel
    have Hany := Lib.hid hany
    have Hb := Lib.hid hb
    clear hany hb
    by_cases hlt : k < cs.length
    · obtain ⟨x, b, off, A1, z, hx, rfl, hc1, hz1, hz2, hxs⟩ := rows_get H.out hlt
      have d0 := bc Hb.out hc1
      have Hx := Lib.hid hx
      have hcall := Hp.out x (List.mem_of_getElem? hx) _ wr Hb.out (hxs.keep Hb.out.below)
      obtain ⟨y, hy⟩ : ∃ y, y = p x := ⟨_, rfl⟩
      have Hy := Lib.hid hy
      rw [← hy] at hcall
      have Hcall := Lib.hid hcall
      clear hy hcall hx hc1 hxs
      go_wp2_with fail
      refine Hcall.out.mono ?_
      rintro e w1 ⟨rfl, hb1⟩
      have Hb1 := Lib.hid (Hb.out.trans hb1)
      clear hb1
      cases y
      · go_wp2
        go_roundw
        case rel => exact ⟨k + 1, by omega, by go_num, anyL_snoc Hx.out Hany.out Hy.out.symm, Hb1.out⟩
        case measure => simp [intOf]; omega
      · have Hr : Hid (rix p cs = k) := by show _ = _; unfold rix; rw [fiL_found Hx.out Hy.out.symm Hany.out]
        go_wp2
        go_ret
        exact ⟨congrArg (fun i => Ending.returned (.int .i64 i)) Hr.out.symm, Hb1.out⟩
    · obtain rfl : k = cs.length := by omega
      have Hr : Hid (rix p cs = -1) := by show _ = _; unfold rix; rw [fiL_none (by have := Hany.out; rwa [List.take_length] at this)]
      go_wp2
      go_ret
      exact ⟨congrArg (fun i => Ending.returned (.int .i64 i)) Hr.out.symm, Hb.out⟩
theorem containsFuncL_any (v : Value) (xs : List (List Int)) (fid : FuncId) (caps : Array Value) (p : List Int → Bool) (w : World) (h : IntSS w v xs) (henter : ∀ args w, (callFunc fid args).run Tryz.prog w = .ok (.enter fid args) w) (hp : PredL w fid caps p xs) :
    Calls Tryz.prog 169 #[v, .func (.func fid) #[] caps] w fun e w' => e = .returned (.bool (xs.any p)) ∧ Below w.heap.size w w' := by
  have hb := indexFuncL_any v xs fid caps p w h henter hp
  have hr := Lib.hid (rix_any p xs)
  have Hb := Lib.hid hb
  clear hb h henter hp
  go_enter Tryz.func169, Tryz.ntmps169
  go_wp2_with fail
  refine Hb.out.mono ?_
  rintro e w1 ⟨rfl, hb1⟩
  have Hb1 := Lib.hid hb1
  clear hb1
  go_wp2
  go_ret
  exact ⟨ret_bool hr.out, Hb1.out⟩
theorem known_drop_neg {s : List Int} {j : Nat} {a : Int} (h : s.drop j = a :: s.drop (j + 1)) (ha : a < 0) : known (s.drop j) = known (s.drop (j + 1)) := by
  rw [h]; unfold known; rw [List.filter_cons_of_neg (by simp; omega)]
theorem known_drop_pos {s : List Int} {j : Nat} {a : Int} (h : s.drop j = a :: s.drop (j + 1)) (ha : ¬ a < 0) : known (s.drop j) = a :: known (s.drop (j + 1)) := by
  rw [h]; unfold known; rw [List.filter_cons_of_pos (by simp; omega)]
set_option maxHeartbeats 4000000 in
/-- the reference: a list lies in another -/
theorem soInside_any (v u : Value) (c row : List Int) (w : World) (h : IntS w v c) (h' : IntS w u row) (hl : row.length ≤ 1000000) :
    Calls Tryz.prog 226 #[v, u] w fun e w' => e = .returned (.bool (inclB c (sortI (known row)))) ∧ Below w.heap.size w w' := by
  have H := Lib.hid h
  have H' := Lib.hid h'
  obtain ⟨A, z, rfl, hlc, hm, -⟩ := h
  unfold maxLen at hm
  obtain ⟨R, hR⟩ : ∃ R, inclB c (sortI (known row)) = R := ⟨_, rfl⟩
  have HR : Hid (inclB c (known (sortI row)) = R) := by show _ = _; rw [← hR]; unfold known; rw [sort_filter]
  rw [hR]
  clear h' hR
  go_enter Tryz.func226, Tryz.ntmps226
  go_wp2_with (go_at_call 258; refine (prSorted_any _ row _ H'.out hl).mono ?_; rintro e w1 ⟨u1, rfl, ho, hb1⟩; obtain ⟨l, hl2⟩ : ∃ l, sortI row = l := ⟨_, rfl⟩; rw [hl2] at ho; have HR2 : Hid (inclB c (known l) = R) := (hl2 ▸ HR.out); have Ho := Lib.hid ho.ints; have Hb1 := Lib.hid hb1; obtain ⟨A2, z2, rfl, hlc2, hm2, hA2⟩ := Ho.out; have HA2 := Lib.hid hA2; have HA := Lib.hid (H.out.keep hb1); clear ho hb1 hl2 hA2; unfold maxLen at hm2)
  obtain ⟨A', z', e, -, -, hA⟩ := HA.out
  cases e
  have HA := Lib.hid hA
  clear hA
  go_loop [5, 11] (fun a i => ∃ k j : Nat, k ≤ c.length ∧ j ≤ l.length ∧ a = .int .i64 k ∧ i = .int .i64 j ∧ R = inclB (c.drop k) (known (l.drop j))) (fun _ i => l.length - (intOf i).toNat)
  case atStart => exact ⟨0, 0, Nat.zero_le _, Nat.zero_le _, rfl, rfl, by simpa using HR2.out.symm⟩
  case round =>
    obtain ⟨k, j, hk, hj, rfl, rfl, heq⟩ := hrel
    have Heq := Lib.hid heq
    clear heq
    by_cases hlt : j < l.length
    · obtain ⟨a, b2, off2, ha, rfl, hc2⟩ := ints_get HA2.out hlt
      have Ha : Hid (l.drop j = a :: l.drop (j + 1)) := by
        show _ = _
        obtain ⟨h1, h2⟩ := List.getElem?_eq_some_iff.1 ha
        rw [List.drop_eq_getElem_cons h1, h2]
      clear ha
      by_cases hneg : a < 0
      · have Hn := Lib.hid (known_drop_neg Ha.out hneg)
        go_wp2
        go_round
        case rel => exact ⟨k, j + 1, hk, by omega, rfl, by go_num, by rw [Heq.out, Hn.out]⟩
        case measure => simp [intOf]; omega
      · have Hn := Lib.hid (known_drop_pos Ha.out hneg)
        go_upto_region 6 with (fail)
        go_loop [5] (fun p => ∃ k : Nat, k ≤ c.length ∧ p = .int .i64 k ∧ R = inclB (c.drop k) (known (l.drop j))) (fun p => c.length - (intOf p).toNat)
        case atStart => exact ⟨k, hk, rfl, Heq.out⟩
        case round =>
          obtain ⟨k, hk, rfl, heq⟩ := hrel
          have Heq := Lib.hid heq
          clear heq
          by_cases hkc : k < c.length
          · obtain ⟨x, b, off, hx, rfl, hc1⟩ := ints_get HA.out hkc
            have Hx := Lib.hid hx
            clear hx
            by_cases hxa : x < a
            · go_wp2
              go_round
              case rel => exact ⟨k + 1, by omega, by go_num, by rw [Heq.out, Hn.out, incl_skip Hx.out hxa]⟩
              case measure => simp [intOf]; omega
            · by_cases hxe : x = a
              · subst hxe
                go_wp2
                go_round
                case rel => exact ⟨k + 1, j + 1, by omega, by omega, by go_num, by go_num, by rw [Heq.out, Hn.out, incl_hit Hx.out]⟩
                case measure => simp [intOf]; omega
              · have hxe2 : (x != a) = true := by simpa using hxe
                have hkn : ((k : Int) == (c.length : Int)) = false := by simp; omega
                go_wp2
                go_ret
                exact ⟨ret_false (by rw [Heq.out, Hn.out, incl_miss Hx.out (by omega) hxe]), Hb1.out⟩
          · obtain rfl : k = c.length := by omega
            go_wp2
            go_ret
            exact ⟨ret_false (by rw [Heq.out, Hn.out, incl_end (Nat.le_refl _)]), Hb1.out⟩
    · obtain rfl : j = l.length := by omega
      go_wp2
      go_ret
      exact ⟨ret_true (by rw [Heq.out, List.drop_length]; cases c.drop k <;> rfl), Hb1.out⟩
set_option maxHeartbeats 4000000 in
theorem soNode_any (pa pb v : Value) (p : Prob) (row : List Int) (w : World) (hp : PrIn w pa pb p) (h : IntS w v row) (hl : row.length ≤ 1000000) :
    Calls Tryz.prog 161 #[.agg #[.int .i64 p.labels, .int .i64 p.degree, pa, pb], v] w fun e w' => e = .returned (.bool (nodeB p row)) ∧ Below w.heap.size w w' := by
  obtain ⟨w0, hw0⟩ : ∃ w0, w0 = (w).alloc (.cells #[.int .i64 p.labels, .int .i64 p.degree, pa, pb] 74) := ⟨_, rfl⟩
  have hb0 : Below w.heap.size w w0 := by rw [hw0]; exact ((Below.refl _ _).alloc (by simp) _)
  have hkP := hp.keep hb0
  have HP := Lib.hid hkP
  obtain ⟨P0, pz0, rfl, hlP0, hmP0, hPe0⟩ := id hkP.1
  unfold maxLen at hmP0
  have HPe0 := Lib.hid hPe0
  clear hPe0
  obtain ⟨P1, pz1, rfl, hlP1, hmP1, hPe1⟩ := id hkP.2
  unfold maxLen at hmP1
  have HPe1 := Lib.hid hPe1
  clear hPe1
  clear hkP hp
  have p00 : ∀ W, Since w0 W → W.cell? ⟨w.heap.size, 0, none⟩ = some (.int .i64 p.labels) := have_cell (by rw [hw0]; simp)
  have p01 : ∀ W, Since w0 W → W.cell? ⟨w.heap.size, 1, none⟩ = some (.int .i64 p.degree) := have_cell (by rw [hw0]; simp)
  have p02 : ∀ W, Since w0 W → W.cell? ⟨w.heap.size, 2, none⟩ = some (.slice P0 p.nodes.length pz0) := have_cell (by rw [hw0]; simp)
  have p03 : ∀ W, Since w0 W → W.cell? ⟨w.heap.size, 3, none⟩ = some (.slice P1 p.edges.length pz1) := have_cell (by rw [hw0]; simp)
  have Hb0 := Lib.hid hb0
  have Hw0 := Lib.hid hw0
  clear hb0 hw0
  have HR := Lib.hid (h.keep Hb0.out)
  obtain ⟨A, z, rfl, hlc, hm, -⟩ := h
  unfold maxLen at hm
  have HPp0 := Lib.hid (show ∀ X, Since w0 X → IntSS X (.slice P0 p.nodes.length pz0) p.nodes from fun X hX => (HP.out.keep hX).1)
  go_enter Tryz.func161, Tryz.ntmps161
  go_upto_region 1 with (fail)
  rw [← Hw0.out]
  have hs0 : Since w0 w0 := since_refl _
  by_cases hdeg : (row.length : Int) = p.degree
  · have hb1 : ((row.length : Int) != p.degree) = false := by simpa using hdeg
    have Hn : Hid (nodeB p row = p.nodes.any fun c => inclB c (sortI (known row))) := by show _ = _; unfold nodeB; rw [show ((row.length : Int) == p.degree) = true by simpa using hdeg]; rfl
    have hml : p.nodes.length ≤ 9223372036854775807 := by obtain ⟨A', c', e, hle, hm', -⟩ := (HPp0.out _ (since_refl _)); cases e; unfold maxLen at hm'; omega
    clear hdeg
    go_wp2
    go_loopw [15] (fun i wr => ∃ k : Nat, k ≤ p.nodes.length ∧ i = .int .i64 k ∧ (p.nodes.take k).any (fun c => inclB c (sortI (known row))) = false ∧ Since w0 wr) (fun i _ => p.nodes.length - (intOf i).toNat)
    case atStart => exact ⟨0, Nat.zero_le _, rfl, rfl, hs0⟩
    case round =>
      obtain ⟨k, hk, rfl, hany, hb⟩ := hrel
      have Hany := Lib.hid hany
      have Hb := Lib.hid hb
      clear hany hb hs0
      by_cases hlt : k < p.nodes.length
      · obtain ⟨x, b, off, A1, z1, hx, rfl, hc1, hz1, hz2, hxs⟩ := rows_get (HPp0.out _ Hb.out) hlt
        have Hx := Lib.hid hx
        have Hxs := Lib.hid hxs
        obtain ⟨y, hy⟩ : ∃ y, inclB x (sortI (known row)) = y := ⟨_, rfl⟩
        have Hy := Lib.hid hy
        clear hx hxs hy
        cases y
        · go_wp2_with (go_at_call 226; refine (soInside_any _ _ x row _ Hxs.out (HR.out.keep Hb.out.below) hl).mono ?_; rw [Hy.out]; rintro e w2 ⟨rfl, hb2⟩)
          have HB2 := Lib.hid (Hb.out.trans hb2)
          clear hb2
          go_roundw
          case rel => exact ⟨k + 1, by omega, by go_num, anyL_snoc Hx.out Hany.out Hy.out, HB2.out⟩
          case measure => simp [intOf]; omega
        · have Hr : Hid (nodeB p row = true) := by show _ = _; rw [Hn.out, List.any_eq_true]; exact ⟨x, List.mem_of_getElem? Hx.out, Hy.out⟩
          go_wp2_with (go_at_call 226; refine (soInside_any _ _ x row _ Hxs.out (HR.out.keep Hb.out.below) hl).mono ?_; rw [Hy.out]; rintro e w2 ⟨rfl, hb2⟩)
          go_ret
          exact ⟨ret_true Hr.out, Since.after Hb0.out (Hb.out.trans hb2)⟩
      · obtain rfl : k = p.nodes.length := by omega
        have Hr : Hid (nodeB p row = false) := by show _ = _; rw [Hn.out]; have := Hany.out; rwa [List.take_length] at this
        go_wp2
        go_ret
        exact ⟨ret_false Hr.out, Since.after Hb0.out Hb.out⟩
  · have hb1 : ((row.length : Int) != p.degree) = true := by simpa using hdeg
    have Hn : Hid (nodeB p row = true) := by show _ = _; unfold nodeB; rw [show ((row.length : Int) == p.degree) = false by simpa using hdeg]; rfl
    clear hdeg
    go_wp2
    go_ret
    exact ⟨ret_true Hn.out, Since.after Hb0.out hs0⟩
end Go.Proofs.YtomnaabadohecaaGreat
namespace Go.Proofs.YtomnaabadohecaaGreat
open Go.RowKit
/-! the test at a node, in the program -/
theorem known_snoc {row : List Int} {k : Nat} {x : Int} (hx : row[k]? = some x) : known (row.take (k + 1)) = known (row.take k) ++ (if 0 ≤ x then [x] else []) := by
  rw [take_snoc hx]
  unfold known
  rw [List.filter_append]
  congr 1
  by_cases h : 0 ≤ x
  · rw [if_pos h, List.filter_cons_of_pos (by simpa using h)]; rfl
  · rw [if_neg h, List.filter_cons_of_neg (by simpa using h)]; rfl
theorem known_len (row : List Int) : (known row).length ≤ row.length := List.length_filter_le _ _
theorem SInv.since {b0 : Nat} {w W W' : World} {pre : List Int} (h : SInv b0 w pre W) (hs : Since W W') : SInv b0 w pre W' := by
  obtain ⟨⟨v, h1, h2⟩, h3, h4⟩ := h
  have hb := hs.below
  exact ⟨⟨v, (hb.block b0 h1.lt).trans h1, h2.keep hb⟩, h3.trans (hb.mono (by omega)), Nat.le_trans h4 hb.size⟩
theorem nodeC_enters : ∀ args w, (callFunc 232 args).run Tryz.prog w = .ok (.enter 232 args) w := enters_of Tryz.func232 (by kernel_rfl) rfl
theorem nodeC_any (u s : Value) (c l : List Int) (b : Nat) (w : World) (h : IntS w u c) (hb : w.cell? ⟨b, 0, none⟩ = some s) (hs : IntS w s l) :
    Calls Tryz.prog 232 #[u, .pointer (some ⟨b, 0, none⟩)] w fun e w' => e = .returned (.bool (inclB c l)) ∧ Below w.heap.size w w' := by
  have H := Lib.hid h
  have HS := Lib.hid hs
  obtain ⟨A, z, rfl, -⟩ := h
  obtain ⟨A2, z2, rfl, -⟩ := hs
  go_enter Tryz.func232, Tryz.ntmps232
  go_wp2_with (go_at_call 233; refine (includes_any _ _ c l _ H.out HS.out).mono ?_; rintro e w1 ⟨rfl, hb1⟩)
  go_ret
  exact ⟨rfl, hb1⟩
set_option maxRecDepth 100000 in
set_option maxHeartbeats 8000000 in
theorem nodeHolds_any (pa pb vl : Value) (p : Prob) (l : List (List Int)) (v : Nat) (row : List Int) (w : World) (hp : PrIn w pa pb p) (h : IntSS w vl l) (hv : l[v]? = some row) (hl : row.length ≤ 1000000) :
    Calls Tryz.prog 167 #[.agg #[.int .i64 p.labels, .int .i64 p.degree, pa, pb], vl, .int .i64 v] w fun e w' => e = .returned (.bool (nodeB p row)) ∧ Below w.heap.size w w' := by
  obtain ⟨w0, hw0⟩ : ∃ w0, w0 = (w).alloc (.cells #[.int .i64 p.labels, .int .i64 p.degree, pa, pb] 74) := ⟨_, rfl⟩
  have hb0 : Below w.heap.size w w0 := by rw [hw0]; exact ((Below.refl _ _).alloc (by simp) _)
  have hkP := hp.keep hb0
  have HP := Lib.hid hkP
  obtain ⟨P0, pz0, rfl, hlP0, hmP0, hPe0⟩ := id hkP.1
  unfold maxLen at hmP0
  have HPe0 := Lib.hid hPe0
  clear hPe0
  obtain ⟨P1, pz1, rfl, hlP1, hmP1, hPe1⟩ := id hkP.2
  unfold maxLen at hmP1
  have HPe1 := Lib.hid hPe1
  clear hPe1
  clear hkP hp
  have p00 : ∀ W, Since w0 W → W.cell? ⟨w.heap.size, 0, none⟩ = some (.int .i64 p.labels) := have_cell (by rw [hw0]; simp)
  have p01 : ∀ W, Since w0 W → W.cell? ⟨w.heap.size, 1, none⟩ = some (.int .i64 p.degree) := have_cell (by rw [hw0]; simp)
  have p02 : ∀ W, Since w0 W → W.cell? ⟨w.heap.size, 2, none⟩ = some (.slice P0 p.nodes.length pz0) := have_cell (by rw [hw0]; simp)
  have p03 : ∀ W, Since w0 W → W.cell? ⟨w.heap.size, 3, none⟩ = some (.slice P1 p.edges.length pz1) := have_cell (by rw [hw0]; simp)
  have Hb0 := Lib.hid hb0
  have Hw0 := Lib.hid hw0
  clear hb0 hw0
  have HL := Lib.hid (h.keep Hb0.out)
  obtain ⟨A, z, rfl, hlc, hm, -⟩ := h
  unfold maxLen at hm
  have HPp0 := Lib.hid (show ∀ X, Since w0 X → IntSS X (.slice P0 p.nodes.length pz0) p.nodes from fun X hX => (HP.out.keep hX).1)
  have hvl := lt_of_get hv
  obtain ⟨row', b, off, A1, z1, hx, rfl, hc1, hz1, hz2, hxs⟩ := rows_get HL.out hvl
  obtain rfl : row' = row := by rw [hv] at hx; exact (Option.some.inj hx).symm
  have q1 := have_cell hc1
  have HX := Lib.hid hxs
  have hr9 : row'.length ≤ 9223372036854775807 := by omega
  clear hx hc1 hxs hv
  go_enter Tryz.func167, Tryz.ntmps167
  go_upto_region 1 with (fail)
  rw [← Hw0.out]
  have hnb : nodeB p row' = (!((row'.length : Int) == p.degree) || p.nodes.any fun c => inclB c (sortI (known row'))) := rfl
  by_cases hdeg : (row'.length : Int) = p.degree
  · have hb1 : ((row'.length : Int) != p.degree) = false := by simpa using hdeg
    have Hn : Hid (nodeB p row' = p.nodes.any fun c => inclB c (sortI (known row'))) := by show _ = _; rw [hnb, show ((row'.length : Int) == p.degree) = true by simpa using hdeg]; rfl
    clear hdeg hnb
    refine wp_region_flow 8 (Since w0) (by kernel_rfl) (by kernel_rfl) (by simp) (since_drew (since_refl _)) ?_
    simp only [List.take_succ_cons, List.take_zero, List.drop_succ_cons, List.drop_zero]
    refine flow_val (v := ?_) rfl ?_ ?_; rotate_left; (intro W hW; go_simp; with_reducible rfl)
    simp only [Act.put, List.setIfInBounds_toArray, List.set_cons_succ, List.set_cons_zero]
    refine flow_val (v := ?_) rfl ?_ ?_; rotate_left; (intro W hW; go_simp; with_reducible rfl)
    simp only [Act.put, List.setIfInBounds_toArray, List.set_cons_succ, List.set_cons_zero]
    refine flow_val (v := ?_) rfl ?_ ?_; rotate_left; (intro W hW; go_simp; with_reducible rfl)
    simp only [Act.put, List.setIfInBounds_toArray, List.set_cons_succ, List.set_cons_zero]
    refine flow_val (v := ?_) rfl ?_ ?_; rotate_left; (intro W hW; go_simp; with_reducible rfl)
    simp only [Act.put, List.setIfInBounds_toArray, List.set_cons_succ, List.set_cons_zero]
    refine flow_val (v := ?_) rfl ?_ ?_; rotate_left; (intro W hW; go_simp; with_reducible rfl)
    simp only [Act.put, List.setIfInBounds_toArray, List.set_cons_succ, List.set_cons_zero]
    refine flow_val (v := ?_) rfl ?_ ?_; rotate_left; (intro W hW; go_simp; with_reducible rfl)
    simp only [Act.put, List.setIfInBounds_toArray, List.set_cons_succ, List.set_cons_zero]
    refine flow_val (v := ?_) rfl ?_ ?_; rotate_left; (intro W hW; go_simp; with_reducible rfl)
    simp only [Act.put, List.setIfInBounds_toArray, List.set_cons_succ, List.set_cons_zero]
    refine flow_val (v := ?_) rfl ?_ ?_; rotate_left; (intro W hW; go_simp; with_reducible rfl)
    simp only [Act.put, List.setIfInBounds_toArray, List.set_cons_succ, List.set_cons_zero]
    intro W hW
    obtain ⟨bk, hbk⟩ : ∃ bk, bk = W.heap.size := ⟨_, rfl⟩
    obtain ⟨W1, hW1⟩ : ∃ W1, W1 = W.alloc (.cells #[.slice none 0 0] 24) := ⟨_, rfl⟩
    have hs1 : SInv bk W [] W1 := by rw [hbk, hW1]; exact ⟨⟨_, Boxed.new _ _ _, own_nil _ _⟩, below_alloc _ _, by simp⟩
    have h01 : Since w0 W1 := by rw [hW1]; exact since_alloc _ hW
    have Hs1 := Lib.hid hs1
    have hWb : Since w0 W := hW
    have HWb := Lib.hid hWb
    have Hbk := Lib.hid hbk
    have HW1 := Lib.hid hW1
    clear hs1 hW hW1 hbk hWb
    go_upto_region 4 with (fail)
    rw [← Hbk.out, ← HW1.out]
    go_wp2
    go_loopw [23] (fun i wr => ∃ k : Nat, k ≤ row'.length ∧ i = .int .i64 k ∧ SInv bk W (known (row'.take k)) wr ∧ Since w0 wr) (fun i _ => row'.length - (intOf i).toNat)
    case atStart => exact ⟨0, Nat.zero_le _, rfl, by simpa [known] using Hs1.out, h01⟩
    case round =>
      obtain ⟨k, hk, rfl, hsi, hb⟩ := hrel
      have Hsi := Lib.hid hsi
      have Hb := Lib.hid hb
      clear h01 hsi
      by_cases hlt : k < row'.length
      · obtain ⟨A1', c1', e, -, -, hA1⟩ := HX.out
        cases e
        obtain ⟨x, b1, off1, hx, rfl, hcx⟩ := ints_get hA1 hlt
        have qx := have_cell hcx
        have Hx := Lib.hid hx
        have Hsn := Lib.hid (known_snoc hx)
        clear hx hcx hA1
        by_cases hx0 : 0 ≤ x
        · obtain ⟨⟨u, hbx, hown⟩, hBw, hsz⟩ := Hsi.out
          have hlen : (known (row'.take k)).length ≤ 1000000 := Nat.le_trans (known_len _) (by rw [List.length_take]; omega)
          have hd := hbx.cell
          have HO := Lib.hid hown
          have HBx := Lib.hid hbx
          have HBw := Lib.hid hBw
          have hlk : Hid ((known (row'.take k)).length + 1 ≤ 17592186044416) := by show _ ≤ _; omega
          have hbs : bk + 1 ≤ wr.heap.size := hsz
          have d2 : (wr.alloc (.cells #[.int .i64 x] 3)).cell? ⟨bk, 0, none⟩ = some u := (hbx.alloc _).cell
          clear hown hbx hBw hlen hsz
          go_wp2_with (at_builtin; refine app_int rfl _ _ rfl rfl (HO.out.keep (below_alloc _ _)) wr.heap.size x rfl (by simp [go_sem]) hlk.out (by simp; omega) ?_; intro g cap w3 ho3 hg3 hcs3 hl3; obtain ⟨kb, kk1, kk2, kk3⟩ := sinv_step HBx.out HO.out HBw.out hbs ho3 hg3; have hf3 := kb.frozen; have hd3 := kb.cell; have Hk3 := Lib.hid kk3; clear kk1 kk2 kk3 ho3 hg3 hcs3)
          have HF : Hid (Since w0 (w3.setCell ⟨bk, 0, none⟩ (.slice (some ⟨g, 0, none⟩) ((known (row'.take k)).length + 1) cap))) := Since.trans HWb.out (Hbk.out ▸ Hk3.out.2.1)
          clear hf3 hd3 kb hl3 d2 hd hb
          go_roundw
          case rel => exact ⟨k + 1, by omega, by go_num, by rw [Hsn.out, if_pos hx0]; exact Hk3.out, HF.out⟩
          case measure => simp [intOf]; omega
        · go_wp2
          go_roundw
          case rel => exact ⟨k + 1, by omega, by go_num, by rw [Hsn.out, if_neg hx0, List.append_nil]; exact Hsi.out, hb⟩
          case measure => simp [intOf]; omega
      · obtain rfl : k = row'.length := by omega
        rw [List.take_length] at Hsi
        obtain ⟨⟨u, hbx, hown⟩, hBw, hsz⟩ := Hsi.out
        have hd := hbx.cell
        have HO := Lib.hid hown
        have HBx := Lib.hid hbx
        have HBw := Lib.hid hBw
        have hkl : (known row').length ≤ 17592186044416 := Nat.le_trans (known_len _) (by omega)
        obtain ⟨A9, z9, rfl, -⟩ := id hown.ints
        clear hown hbx hBw hb
        go_wp2_with fail
        refine (sort_any _ (known row') _ _ HO.out hkl).mono ?_
        rintro e w4 ⟨rfl, ho4, hg4⟩
        have hnb : some bk ≠ (Value.slice A9 (known row').length z9).ownBlock := fun e => by have := (World.ownsRow.lt HO.out bk e.symm).1; omega
        have hb4 := HBx.out.kept hg4 hnb
        have hd4 := hb4.cell
        have HO4 : Hid (IntS w4 (.slice A9 (known row').length z9) (sortI (known row'))) := Own.ints ho4
        have HS4 : Hid (Since w0 w4) := Since.trans HWb.out (Hbk.out ▸ HBw.out.grown hg4 (by have := HBw.out.size; omega) (fun k e => by have := (World.ownsRow.lt HO.out k e).1; omega))
        have Hb4 := Lib.hid hb4
        clear ho4 hg4 hb4 hnb hd
        have hs4 := HS4.out
        go_wp2_with fail
        obtain ⟨r, hr⟩ : ∃ r, nodeB p row' = r := ⟨_, rfl⟩
        have Hr := Lib.hid hr
        clear hr hs4
        refine (containsFuncL_any _ p.nodes 232 #[.pointer (some ⟨bk, 0, none⟩)] (fun c => inclB c (sortI (known row'))) _ (HPp0.out _ HS4.out) nodeC_enters (fun c hc u X hX hu => nodeC_any u _ c _ bk X hu (bc hX Hb4.out.cell) (HO4.out.keep hX.below))).mono ?_
        rw [← Hn.out, Hr.out]
        rintro e w5 ⟨rfl, hb5⟩
        have HS5 := Lib.hid (HS4.out.trans hb5)
        clear hb5
        go_wp2
        go_ret
        exact ⟨ret_bool Hr.out.symm, Since.after Hb0.out HS5.out⟩
  · have hb1 : ((row'.length : Int) != p.degree) = true := by simpa using hdeg
    have Hn : Hid (nodeB p row' = true) := by show _ = _; rw [hnb, show ((row'.length : Int) == p.degree) = false by simpa using hdeg]; rfl
    clear hdeg hnb
    refine wp_region_flow 8 (Since w0) (by kernel_rfl) (by kernel_rfl) (by simp) (since_drew (since_refl _)) ?_
    simp only [List.take_succ_cons, List.take_zero, List.drop_succ_cons, List.drop_zero]
    refine flow_val (v := ?_) rfl ?_ ?_; rotate_left; (intro W hW; go_simp; with_reducible rfl)
    simp only [Act.put, List.setIfInBounds_toArray, List.set_cons_succ, List.set_cons_zero]
    refine flow_val (v := ?_) rfl ?_ ?_; rotate_left; (intro W hW; go_simp; with_reducible rfl)
    simp only [Act.put, List.setIfInBounds_toArray, List.set_cons_succ, List.set_cons_zero]
    refine flow_val (v := ?_) rfl ?_ ?_; rotate_left; (intro W hW; go_simp; with_reducible rfl)
    simp only [Act.put, List.setIfInBounds_toArray, List.set_cons_succ, List.set_cons_zero]
    refine flow_val (v := ?_) rfl ?_ ?_; rotate_left; (intro W hW; go_simp; with_reducible rfl)
    simp only [Act.put, List.setIfInBounds_toArray, List.set_cons_succ, List.set_cons_zero]
    refine flow_val (v := ?_) rfl ?_ ?_; rotate_left; (intro W hW; go_simp; with_reducible rfl)
    simp only [Act.put, List.setIfInBounds_toArray, List.set_cons_succ, List.set_cons_zero]
    refine flow_val (v := ?_) rfl ?_ ?_; rotate_left; (intro W hW; go_simp; with_reducible rfl)
    simp only [Act.put, List.setIfInBounds_toArray, List.set_cons_succ, List.set_cons_zero]
    refine flow_val (v := ?_) rfl ?_ ?_; rotate_left; (intro W hW; go_simp; with_reducible rfl)
    simp only [Act.put, List.setIfInBounds_toArray, List.set_cons_succ, List.set_cons_zero]
    refine flow_val (v := ?_) rfl ?_ ?_; rotate_left; (intro W hW; go_simp; with_reducible rfl)
    simp only [Act.put, List.setIfInBounds_toArray, List.set_cons_succ, List.set_cons_zero]
    intro W hW
    have HW := Lib.hid hW
    clear hW
    go_wp2
    go_ret
    exact ⟨ret_true Hn.out, Since.after Hb0.out HW.out⟩
end Go.Proofs.YtomnaabadohecaaGreat
