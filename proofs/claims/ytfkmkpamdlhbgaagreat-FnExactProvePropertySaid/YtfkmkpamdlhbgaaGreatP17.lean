/- Parts of the proof: walks of functions and plain laws. -/
import Derived.Test.YtfkmkpamdlhbgaaGreatP16
import Derived.Test.YtfkmkpamdlhbgaaGreatP12
import Derived.Test.YtfkmkpamdlhbgaaGreatP11
namespace Go.Proofs.YtfkmkpamdlhbgaaGreat
open Go.RowKit
/-! a network without some ports -/
structure KeepIs (n : Net) (K : List (List Bool)) (kf : Nat → Nat → Bool) : Prop where
  len : K.length = n.ends.length
  row : ∀ (v : Nat) (es : List (Int × Int)), n.ends[v]? = some es → ∃ row, K[v]? = some row ∧ row.length = es.length ∧ ∀ i, i < es.length → row[i]? = some (kf v i)
def toRow (kf : Nat → Nat → Bool) (v m : Nat) : List Int := (List.range m).map fun i => ((cntK kf v i : Nat) : Int)
theorem toRow_succ (kf : Nat → Nat → Bool) (v m : Nat) : toRow kf v (m + 1) = toRow kf v m ++ [((cntK kf v m : Nat) : Int)] := by unfold toRow; rw [List.range_succ, List.map_append]; rfl
theorem toRow_len (kf : Nat → Nat → Bool) (v m : Nat) : (toRow kf v m).length = m := by simp [toRow]
theorem toRow_get (kf : Nat → Nat → Bool) (v : Nat) {m i : Nat} (h : i < m) : (toRow kf v m)[i]? = some ((cntK kf v i : Nat) : Int) := by
  unfold toRow
  rw [List.getElem?_map, List.getElem?_range h]; rfl
def toAt (n : Net) (kf : Nat → Nat → Bool) (k j : Nat) : List (List Int) := (List.range n.ends.length).map fun v => if v < k then toRow kf v (n.ends.getD v []).length else if v = k then toRow kf k j else []
theorem toAt_len (n : Net) (kf : Nat → Nat → Bool) (k j : Nat) : (toAt n kf k j).length = n.ends.length := by simp [toAt]
theorem toAt_get {n : Net} {kf : Nat → Nat → Bool} {k j v : Nat} (h : v < n.ends.length) : (toAt n kf k j)[v]? = some (if v < k then toRow kf v (n.ends.getD v []).length else if v = k then toRow kf k j else []) := by
  unfold toAt
  rw [List.getElem?_map, List.getElem?_range h]; rfl
theorem toAt_zero (n : Net) (kf : Nat → Nat → Bool) : toAt n kf 0 0 = List.replicate n.ends.length [] := by
  unfold toAt
  apply List.ext_getElem?
  intro i
  rw [List.getElem?_map, List.getElem?_replicate]
  by_cases h : i < n.ends.length
  · rw [List.getElem?_range h, if_pos h]
    simp only [Option.map_some, Option.some.injEq]
    rw [if_neg (by omega)]
    split <;> rfl
  · rw [List.getElem?_eq_none (by simpa using h), if_neg h]; rfl
theorem toAt_set {n : Net} {kf : Nat → Nat → Bool} {k j : Nat} (hk : k < n.ends.length) : (toAt n kf k j).set k (toRow kf k (j + 1)) = toAt n kf k (j + 1) := by
  apply List.ext_getElem?
  intro i
  rw [List.getElem?_set]
  by_cases h : k = i
  · subst h
    rw [if_pos rfl, toAt_len, if_pos hk, toAt_get hk, if_neg (by omega), if_pos rfl]
  · rw [if_neg h]
    by_cases h2 : i < n.ends.length
    · rw [toAt_get h2, toAt_get h2, if_neg (c := i = k) (by omega), if_neg (c := i = k) (by omega)]
    · rw [List.getElem?_eq_none (by rw [toAt_len]; omega), List.getElem?_eq_none (by rw [toAt_len]; omega)]
theorem toAt_next (n : Net) (kf : Nat → Nat → Bool) (k : Nat) : toAt n kf k (n.ends.getD k []).length = toAt n kf (k + 1) 0 := by
  unfold toAt
  apply List.map_congr_left
  intro v hv
  by_cases h1 : v < k
  · rw [if_pos h1, if_pos (by omega)]
  · rw [if_neg h1]
    by_cases h2 : v = k
    · rw [if_pos h2, if_pos (by omega), h2]
    · rw [if_neg h2, if_neg (by omega)]
      split <;> rfl
theorem cutRow_eq {n : Net} {kf : Nat → Nat → Bool} {k j : Nat} {es : List (Int × Int)} {x : Int × Int} (hes : n.ends.getD k [] = es) (hx : es[j]? = some x) : cutRowU n kf k (j + 1) = cutRowU n kf k j ++ (if kf k j = true then [(x.1, ((cntK kf x.1.toNat x.2.toNat : Nat) : Int))] else []) := by
  rw [cutRowU_succ]
  have : (rowOf n k).getD j (0, 0) = x := by unfold rowOf; rw [hes]; exact getD_of hx
  rw [this]
theorem cutEnds_succ {n : Net} (kf : Nat → Nat → Bool) (k : Nat) : (List.range (k + 1)).map (cutRow n kf) = (List.range k).map (cutRow n kf) ++ [cutRow n kf k] := by rw [List.range_succ, List.map_append]; rfl
theorem cell_two (W : World) (x y : Value) (t : TypeId) : (W.alloc (.cells #[x, y] t)).cell? ⟨W.heap.size, 0, none⟩ = some x ∧ (W.alloc (.cells #[x, y] t)).cell? ⟨W.heap.size, 1, none⟩ = some y := ⟨by simp, by simp⟩
/-- append of one end, at any base, with where the row lies -/
theorem app_endH {w : World} {ops : Array Oper} {rest : List Oper} {o : Oper} {a : Act} {Q : Exit → Act → World → Prop} (hgd : o.guard = none) (s x : Operand)
    (ho : o.op = .call { callee := .builtin .append, args := #[s, x], argTypes := #[60, 60] }) {base : Nat} {v : Value} {xs : List (Int × Int)} {T : List Nat} (hs : a.eval s = v) (h : OwnE w base v xs T) (b : Nat) (y : Int × Int)
    (hx : a.eval x = .slice (some ⟨b, 0, none⟩) 1 1) (hc : w.cell? ⟨b, 0, none⟩ = some (.int .i64 y.1)) (hc1 : w.cell? ⟨b, 1, none⟩ = some (.int .i64 y.2)) (hl : xs.length + 1 ≤ 1000000) (hsn : base ≤ w.heap.size)
    (k : ∀ g cap w', OwnE w' base (.slice (some ⟨g, 0, none⟩) (xs.length + 1) cap) (xs ++ [y]) [g] → w.grownBy w' v.ownBlock → (v.ownBlock = some g ∨ g = w.heap.size) → wpList Tryz.prog ops Q rest (a.put o.dst (.slice (some ⟨g, 0, none⟩) (xs.length + 1) cap)) w') : wpList Tryz.prog ops Q (o :: rest) a w := by
  obtain ⟨i0, hi, hz0, hz1, hz2⟩ := info_parts end_info
  refine wpList_append_lies w hgd s x 60 ho base 62 i0 _ 2 16 Tryz.underlying60 hi hz0 hz1 hz2 rfl (by decide) v xs.length (xs.flatMap encE) hs h.1 ⟨b, 0, none⟩ 1 1 [.int .i64 y.1, .int .i64 y.2] hx rfl
    (by intro j u hj; match j, hj with | 0, hj => (simp at hj; subst hj; simpa [Addr.add] using hc) | 1, hj => (simp at hj; subst hj; simpa [Addr.add] using hc1) | j + 2, hj => simp at hj) (by simp [Value.oneCell']) (by omega) (by unfold maxLen; omega) (by omega) hsn w.heap.size rfl ?_
  intro g cap w' q1 q2 q3 q4
  have hq : w'.ownsRow base 62 2 (.slice (some ⟨g, 0, none⟩) (xs.length + 1) cap) (xs ++ [y]).length ((xs ++ [y]).flatMap encE) := by simpa [encE] using q1
  exact k g cap w' ⟨hq, by simp [Value.ownBlock]⟩ q2 q3
set_option maxRecDepth 100000 in
set_option maxHeartbeats 16000000 in
theorem neCut_any (ve vi vn vk : Value) (n : Net) (K : List (List Bool)) (kf : Nat → Nat → Bool) (w : World) (h : NetIn w ve vi vn n) (hn : netOk n = true) (hK : BoolSS w vk K) (hkf : KeepIs n K kf) :
    Calls Tryz.prog 187 #[.agg #[ve, vi, vn], vk] w (NewNet w (cutB n kf)) := by
  have hn40 := (netOk_len hn).2
  have HN40 := Lib.hid hn40
  have hil : Hid (n.ids.length ≤ 17592186044416) := by show _ ≤ _; have := netOk_ids hn; omega
  have hnl : Hid (n.inputs.length ≤ 17592186044416) := by show _ ≤ _; rw [(netOk_inq hn).1]; omega
  have Hn := Lib.hid hn
  have Hkf := Lib.hid hkf
  have HRow : Hid (∀ (k : Nat) (es : List (Int × Int)), n.ends[k]? = some es → es.length ≤ 6) := fun (k : Nat) (es : List (Int × Int)) he => (netOk_row hn he).1
  obtain ⟨w0, hw0⟩ : ∃ w0, w0 = (w).alloc (.cells #[ve, vi, vn] 27) := ⟨_, rfl⟩
  have hb0 : Below w.heap.size w w0 := by rw [hw0]; exact ((Below.refl _ _).alloc (by simp) _)
  have H := Lib.hid (h.keep hb0)
  obtain ⟨h1, h2, h3⟩ := h.keep hb0
  obtain ⟨A, c, rfl, hlc, hm, hA⟩ := h1
  obtain ⟨A2, c2, rfl, _, hm2, _⟩ := h2
  obtain ⟨A3, c3, rfl, _, hm3, _⟩ := h3
  unfold maxLen at hm hm2 hm3
  have p00 : ∀ W, Since w0 W → W.cell? ⟨w.heap.size, 0, none⟩ = some (.slice A n.ends.length c) := have_cell (by rw [hw0]; simp)
  have p01 : ∀ W, Since w0 W → W.cell? ⟨w.heap.size, 1, none⟩ = some (.slice A2 n.ids.length c2) := have_cell (by rw [hw0]; simp)
  have p02 : ∀ W, Since w0 W → W.cell? ⟨w.heap.size, 2, none⟩ = some (.slice A3 n.inputs.length c3) := have_cell (by rw [hw0]; simp)
  have Hb0 := Lib.hid hb0
  have Hw0 := Lib.hid hw0
  have HA := Lib.hid hA
  clear hA h
  clear hb0 hw0
  obtain ⟨wz, hwz⟩ : ∃ wz, wz = w0.alloc (.cells #[.slice none 0 0, .slice none 0 0, .slice none 0 0] 27) := ⟨_, rfl⟩
  have hsz : Since w0 wz := by rw [hwz]; exact since_alloc _ (since_refl _)
  have HRz : Hid (∀ X, Since wz X → BoxN X w0.heap.size (.slice none 0 0) (.slice none 0 0) (.slice none 0 0)) := fun X hX => by
    refine BoxN.since (W := wz) ?_ hX
    rw [hwz]
    show (w0.heap.push _)[w0.heap.size]? = _
    rw [Array.getElem?_push_size]
  have HKz : Hid (∀ X, Since wz X → BoolSS X vk K) := fun X hX => (hK.keep (Hb0.out)).keep (hsz.after hX).below
  have Hza : Hid (wz.heap.size = w0.heap.size + 1) := by show _ = _; rw [hwz]; simp
  have z00 := lift_cell p00 hsz
  have z01 := lift_cell p01 hsz
  have z02 := lift_cell p02 hsz
  have Hwz := Lib.hid hwz
  have Hsz := Lib.hid hsz
  obtain ⟨AK, cK, rfl, hlK, hmK, -⟩ := hK
  unfold maxLen at hmK
  have hKl := hkf.len
  have HKl := Lib.hid hKl
  clear hwz hsz p00 p01 p02 hn hkf
  rw [hKl] at hlK HKz ⊢
  clear hKl
  go_enter Tryz.func187, Tryz.ntmps187
  go_upto_region 1 with (fail)
  rw [← Hw0.out, ← Hwz.out]
  go_upto_region 2 with (at_make; refine mk_rowsI _ rfl _ _ rfl n.ends.length rfl rfl (by omega) ?_; intro w1 ho1 hb1; have hs1 : Since wz w1 := hb1)
  obtain ⟨g, hg⟩ : ∃ g, g = wz.heap.size := ⟨_, rfl⟩
  rw [← hg] at ho1 ⊢
  have Hg : Hid (wz.heap.size ≤ g) := by rw [hg]; exact Nat.le_refl _
  have Ho1 : Hid (OwnII w1 wz.heap.size (.slice (some ⟨g, 0, none⟩) n.ends.length n.ends.length) (toAt n kf 0 0) [g]) := by rw [toAt_zero]; exact lawII.mono ho1 Hg.out
  have Hs1 : Hid (Since wz w1) := hs1
  clear ho1 hb1 hg
  go_wp2
  clear hs1
  go_loopw [23] (fun i wr => ∃ (k : Nat) (S : List Nat), k ≤ n.ends.length ∧ i = .int .i64 k ∧ OwnII wr wz.heap.size (.slice (some ⟨g, 0, none⟩) n.ends.length n.ends.length) (toAt n kf k 0) S ∧ Since wz wr) (fun i _ => n.ends.length - (intOf i).toNat)
  case atStart => exact ⟨0, _, Nat.zero_le _, rfl, Ho1.out, Hs1.out⟩
  case round =>
    obtain ⟨k, S, hk, rfl, ho, hsr⟩ := hrel
    have Ho := Lib.hid ho
    have Hs := Lib.hid hsr
    clear ho
    by_cases hlt : k < n.ends.length
    · obtain ⟨es, hes⟩ := getx n.ends k hlt
      have hes6 := HRow.out k es hes
      obtain ⟨b, offr, cr, ur, hA1, hkr, hc1, hro⟩ := row_at H.out.es hes
      cases hA1
      obtain ⟨A1, y1, rfl, hz1, hz2, hA1⟩ := hro
      unfold maxLen at hz2
      have r1 := lift_cell (have_cell hc1) Hsz.out
      have r1 := lift_cell r1 Hs.out
      have q5 := r1 wr (since_refl _)
      have m4 : IntKind.i64.wrap ((k : Int) + 1) = (k : Int) + 1 := wr64 _ (by omega) (by omega)
      obtain ⟨kr, hkr, hkrl, hkri⟩ := Hkf.out.row k es hes
      have Hkri := Lib.hid hkri
      have Hgd : Hid (n.ends.getD k [] = es) := getD_of hes
      clear hes hc1 hA1 hkri hsr
      go_wp2
      go_loopw [8, 30] (fun c8 i wq => ∃ (j : Nat) (T : List Nat), j ≤ es.length ∧ i = .int .i64 j ∧ c8 = .int .i64 (cntK kf k j : Nat) ∧ OwnII wq wz.heap.size (.slice (some ⟨g, 0, none⟩) n.ends.length n.ends.length) (toAt n kf k j) T ∧ Since wz wq) (fun _ i _ => es.length - (intOf i).toNat)
      case atStart => exact ⟨0, S, Nat.zero_le _, rfl, rfl, Ho.out, Hs.out⟩
      case round =>
        obtain ⟨j, T, hj, rfl, rfl, hoj, hsq⟩ := hrel
        have Hoj := Lib.hid hoj
        have Hsq := Lib.hid hsq
        clear hoj
        have hck := cntK_le kf k j
        by_cases hlj : j < es.length
        · have m3 : IntKind.i64.wrap ((j : Int) + 1) = (j : Int) + 1 := wr64 _ (by omega) (by omega)
          obtain ⟨cn, hcn⟩ : ∃ cn, cntK kf k j = cn := ⟨_, rfl⟩
          rw [hcn] at hck ⊢
          have m5 : IntKind.i64.wrap ((cn : Int) + 1) = (cn : Int) + 1 := wr64 _ (by omega) (by omega)
          have hrowk : (toAt n kf k j)[k]? = some (toRow kf k j) := by rw [toAt_get hlt, if_neg (by omega), if_pos rfl]
          obtain ⟨u, U, hc1, hu, hUT, hgU, hgrow⟩ := OwnRows.grow lawI Hoj.out hrowk
          obtain ⟨Au, mu, cu, rfl⟩ := lawI.one hu
          have c2 := hc1
          have Hu := Lib.hid hu
          have Hgrow := Lib.hid hgrow
          have HgU := Lib.hid hgU
          have Hlen : Hid ((toRow kf k j).length + 1 ≤ 17592186044416) := by show _ ≤ _; rw [toRow_len]; omega
          have Hset := Lib.hid (toAt_set (kf := kf) (j := j) hlt)
          have Hsu := Lib.hid (toRow_succ kf k j)
          have Hcn := Lib.hid hcn
          have hbs : Hid (wz.heap.size ≤ wr.heap.size) := Hsq.out.below.size
          have hfree : ∀ X : World, (X.heap[g]? = wr.heap[g]?) → X.frozen? ⟨g, k, none⟩ = false ∧ X.cell? ⟨g, k, none⟩ = some (.slice Au mu cu) := fun X hX => by
            obtain ⟨_, _, hc9, hf9, -⟩ := OwnRows.at_ Hoj.out hrowk
            constructor
            · rw [← hf9]; simp only [World.frozen?, hX]
            · rw [← hc1]; exact World.cell?_of_block hX
          have Hfree := Lib.hid hfree
          have hgl : g < wr.heap.size := World.block_lt_of_cell? wr _ hc1
          have Hgl := Lib.hid hgl
          clear hrowk hc1 hu hUT hgU hgrow hcn hfree hgl hsq
          go_upto_region 10 with (at_builtin; (refine app_int (base := wz.heap.size) (v := .slice Au mu cu) (xs := toRow kf k j) rfl _ _ rfl rfl (Hu.out.1.keep (since_alloc _ (since_refl _))) wr.heap.size cn rfl (by simp [go_sem]) Hlen.out (Nat.le_trans hbs.out (by simp)) ?_; intro g9 cx w4 ho4 hg4 hl4 hlt4; have Ho4 := Lib.hid ho4; have Hg4 := Lib.hid hg4; have Hl4 := Lib.hid hl4; have hkg : w4.heap[g]? = wr.heap[g]? := (hg4.block g (by have := Hgl.out; simp; omega) (fun e => HgU.out (by rw [Hu.out.2, ← e]; simp))).trans (Below.heap_alloc wr _ g Hgl.out); have cz := (Hfree.out w4 hkg).2; have fz := (Hfree.out w4 hkg).1; clear ho4 hg4 hl4 hlt4 hkg))
          have hon : Only U wr w4 := ((Only.refl U wr).alloc _).trans (by have h7 := Only.of_grown Hg4.out; rw [← Hu.out.2] at h7; exact h7)
          have hng : ∀ q ∈ [g9], q ∈ U ∨ wr.heap.size ≤ q := fun q hq => by
            obtain rfl : q = g9 := by simpa using hq
            rcases Hl4.out with h8 | h8
            · exact .inl (by rw [Hu.out.2, h8]; simp)
            · exact .inr (by rw [h8]; simp)
          obtain ⟨T2, hT2, -⟩ := Hgrow.out (.slice (some ⟨g9, 0, none⟩) ((toRow kf k j).length + 1) cx) (toRow kf k j ++ [(cn : Int)]) [g9] w4 ⟨Ho4.out, by simp [Value.ownBlock]⟩ hon hng
          rw [← Hcn.out, ← Hsu.out, Hset.out] at hT2
          obtain ⟨w5, hw5⟩ : ∃ w5, w5 = w4.setCell ⟨g, k, none⟩ (.slice (some ⟨g9, 0, none⟩) ((toRow kf k j).length + 1) cx) := ⟨_, rfl⟩
          have Hs5 : Hid (Since wz w5) := by
            show Since _ _
            rw [hw5]
            exact Below.setCell (Below.grown (Hsq.out.below.alloc (Hsq.out.below.size) _) Hg4.out (Nat.le_trans hbs.out (by simp)) (fun q hq => (World.ownsRow.lt Hu.out.1 q hq).1)) Hg.out _
          rw [← hw5] at hT2
          have HT2 : Hid (OwnII w5 wz.heap.size (.slice (some ⟨g, 0, none⟩) n.ends.length n.ends.length) (toAt n kf k (j + 1)) T2) := by
            show OwnII _ _ _ _ _
            have h7 := hT2
            exact h7
          rw [← hw5]
          clear hT2 hw5 hon hng c2 cz fz
          obtain ⟨Ak0, ck0, e0, -, -, hAk0⟩ := HKz.out w5 Hs5.out
          simp only [Value.slice.injEq] at e0
          obtain ⟨rfl, -, rfl⟩ := e0
          obtain ⟨bk, ofk, uk, rfl, hck1, Ak1, ck1, rfl, hck2, hck3, hAk1⟩ := hAk0 k kr hkr
          obtain ⟨bk1, ofk1, rfl, hck4⟩ := hAk1 j _ (Hkri.out j hlj)
          rw [hkrl] at hck1 hck2
          unfold maxLen at hck3
          clear hAk0 hAk1
          cases hkk : kf k j
          · rw [hkk] at hck4
            have Hc6 : Hid (cntK kf k (j + 1) = cn) := by show _ = _; rw [cntK_succ, hkk, Hcn.out]; simp
            go_wp2
            go_roundw
            case rel => exact ⟨j + 1, T2, by omega, by first | rfl | go_num, by rw [Hc6.out], HT2.out, Hs5.out⟩
            case measure => simp [intOf]; omega
          · rw [hkk] at hck4
            have Hc6 : Hid (cntK kf k (j + 1) = cn + 1) := by show _ = _; rw [cntK_succ, hkk, Hcn.out]; simp
            go_wp2
            go_roundw
            case rel => exact ⟨j + 1, T2, by omega, by first | rfl | go_num, by rw [Hc6.out]; first | rfl | go_num, HT2.out, Hs5.out⟩
            case measure => simp [intOf]; omega
        · obtain rfl : j = es.length := by omega
          have Hnx := toAt_next n kf k
          rw [Hgd.out] at Hnx
          have HNx := Lib.hid Hnx
          clear Hnx hsq
          go_wp2
          go_roundw
          case rel => exact ⟨k + 1, T, by omega, by first | rfl | go_num, by rw [← HNx.out]; exact Hoj.out, Hsq.out⟩
          case measure => simp [intOf]; omega
    · obtain rfl : k = n.ends.length := by omega
      have HTO := Lib.hid (show ∀ X, Since wr X → IntSS X (.slice (some ⟨g, 0, none⟩) n.ends.length n.ends.length) (toAt n kf n.ends.length 0) from fun X hX => (OwnII.read Ho.out).keep hX.below)
      have q00 := lift_cell z00 hsr
      have q01 := lift_cell z01 hsr
      have q02 := lift_cell z02 hsr
      have HNe := Lib.hid (show ∀ X, Since wr X → EndSS X (.slice A n.ends.length c) n.ends from fun X hX => (H.out.keep (Hsz.out.after (hsr.after hX)).below).es)
      have HNi := Lib.hid (show ∀ X, Since wr X → IntS X (.slice A2 n.ids.length c2) n.ids from fun X hX => by have := H.out.keep (Hsz.out.after (hsr.after hX)).below; exact this.2.1)
      have HNn := Lib.hid (show ∀ X, Since wr X → IntS X (.slice A3 n.inputs.length c3) n.inputs from fun X hX => by have := H.out.keep (Hsz.out.after (hsr.after hX)).below; exact this.2.2)
      have HKa := Lib.hid (show ∀ X, Since wr X → BoolSS X (.slice AK n.ends.length cK) K from fun X hX => HKz.out X (hsr.after hX))
      have HRb := Lib.hid (show ∀ X, Since wr X → BoxN X w0.heap.size (.slice none 0 0) (.slice none 0 0) (.slice none 0 0) from fun X hX => HRz.out X (hsr.after hX))
      have Hsa : Hid (Since w0 wr) := Hsz.out.after hsr
      have Hzb : Hid (w0.heap.size + 1 ≤ wr.heap.size) := by show _ ≤ _; have h7 := Hza.out; have h8 := hsr.below.size; omega
      obtain ⟨wa, hwae⟩ : ∃ wa, wr = wa := ⟨_, rfl⟩
      rw [hwae] at HTO q00 q01 q02 HNe HNi HNn HKa HRb Hsa Hzb ⊢
      have Hil := hil
      have Hnl := hnl
      clear hwae hsr hk hlt Ho Hs z00 z01 z02 Ho1 Hs1
      go_upto_region 14 with (fail)
      refine wp_region_fork (w0 := wa) 9 [0, 0, 1, 0, 0, 1, 1, 2, 3] (fun _ W u => NewB W wa.heap.size u) (fun _ W W' u h hs => h.keep hs) (by kernel_rfl) (by kernel_rfl) (since_refl _) ?_
      rw [show idxN 2 ([0, 0, 1, 0, 0, 1, 1, 2, 3] : List Nat) = [7] from by decide]
      simp only [selN, List.take_succ_cons, List.take_zero, List.drop_succ_cons, List.drop_zero, if_true, if_false, reduceCtorEq, Nat.reduceEqDiff, reduceIte, Nat.zero_ne_one, Nat.one_ne_zero]
      refine pflow_val (v := ?_) rfl ?_ ?_; rotate_left; (intro W hW; go_simp; with_reducible rfl)
      simp only [Act.put, List.setIfInBounds_toArray, List.set_cons_succ, List.set_cons_zero]
      refine pflow_val (v := ?_) rfl ?_ ?_; rotate_left; (intro W hW; go_simp; with_reducible rfl)
      simp only [Act.put, List.setIfInBounds_toArray, List.set_cons_succ, List.set_cons_zero]
      refine pflow_val (v := ?_) rfl ?_ ?_; rotate_left; (intro W hW; go_simp; with_reducible rfl)
      simp only [Act.put, List.setIfInBounds_toArray, List.set_cons_succ, List.set_cons_zero]
      refine pflow_val (v := ?_) rfl ?_ ?_; rotate_left; (intro W hW; go_simp; with_reducible rfl)
      simp only [Act.put, List.setIfInBounds_toArray, List.set_cons_succ, List.set_cons_zero]
      refine ⟨?_, ?_⟩
      · intro j hj
        obtain rfl := List.mem_singleton.1 hj
        intro o ho
        cases ho
        refine ⟨rfl, fun W hW => ?_⟩
        unfold GivesAny
        go_simp
        all_goals (first | exact NewB.new _ hW.below.size | exact ⟨NewB.new _ hW.below.size, since_alloc _ (since_refl _)⟩)
      intro W hW
      intro W1 h1
      have hW1 := Since.after hW h1
      refine ⟨rfl, ?_⟩
      go_simp
      (with_reducible refine (l1Own_all _ n.ids W1 (HNi.out W1 hW1) Hil.out).mono ?_)
      rintro e W ⟨u1, rfl, ho, hb⟩
      refine ⟨_, rfl, hb, ?_⟩
      have hW := hW1.after (hb)
      have HI := Lib.hid (show ∀ X, Since W X → Own X wa.heap.size u1 n.ids from fun X hX => (ho.since hX).mono hW1.below.size); clear ho hb
      (try simp only [Act.put, List.setIfInBounds_toArray, List.set_cons_succ, List.set_cons_zero])
      intro W1 h1
      have hW1 := Since.after hW h1
      refine ⟨rfl, ?_⟩
      go_simp
      (with_reducible refine (l1Own_all _ n.inputs W1 (HNn.out W1 hW1) Hnl.out).mono ?_)
      rintro e W ⟨u2, rfl, ho, hb⟩
      refine ⟨_, rfl, hb, ?_⟩
      have hW := hW1.after (hb)
      have HI1 := Lib.hid (show ∀ X, Since W X → Own X wa.heap.size u1 n.ids from fun X hX => HI.out X ((h1.trans hb).after hX)); have HI2 := Lib.hid (show ∀ X, Since W X → Own X wa.heap.size u2 n.inputs from fun X hX => (ho.since hX).mono hW1.below.size); have Hd3 := Lib.hid (show ∀ j, u1.ownBlock = some j → u2.ownBlock ≠ some j from fun j hj hk => by have := (World.ownsRow.lt (HI.out W1 h1) j hj).2; have := (World.ownsRow.lt ho j hk).1; omega); clear ho hb HI; obtain ⟨BI, dI, rfl, _⟩ := id (HI1.out W (since_refl _)).ints; obtain ⟨BN, dN, rfl, _⟩ := id (HI2.out W (since_refl _)).ints
      (try simp only [Act.put, List.setIfInBounds_toArray, List.set_cons_succ, List.set_cons_zero])
      intro W1 h1
      have hW1 := Since.after hW h1
      refine ⟨rfl, ?_⟩
      go_simp
      have hq6 := h1
      have hW := hW1
      (try simp only [Act.put, List.setIfInBounds_toArray, List.set_cons_succ, List.set_cons_zero])
      intro us W h1 hU
      have hW := Since.after hW h1
      have hU7 : (fun _ W u => NewB W wa.heap.size u) 7 W (us 7) := by first | exact hU 7 (by simp) | exact hU
      (try simp only [] at hU7)
      simp only [putAll, List.getElem?_toArray, List.getElem?_cons_succ, List.getElem?_cons_zero]
      (try simp only [Act.put, List.setIfInBounds_toArray, List.set_cons_succ, List.set_cons_zero])
      obtain ⟨u7, hu7⟩ : ∃ x, x = us 7 := ⟨_, rfl⟩
      rw [← hu7] at hU7 ⊢
      clear hu7
      clear hU us
      obtain ⟨ob, rfl, hob, hbx⟩ := hU7; have HO1 := Lib.hid (HI1.out _ (hq6.after h1)); have HO2 := Lib.hid (HI2.out _ (hq6.after h1)); have HBx := Lib.hid hbx; obtain ⟨c0, c1, c2', f0, f1, f2⟩ := hbx.box.cells
      refine tflow_skipw (W' := ?_) rfl ?_ ?_ ?_; rotate_left
      (go_simp; with_reducible rfl)
      exact (((hW.setCell hob _).setCell hob _).setCell hob _)
      (try simp only [Act.put, List.setIfInBounds_toArray, List.set_cons_succ, List.set_cons_zero])
      simp only [TFlow]
      have hbx4 : BoxN (((W.setCell ⟨ob, 0, none⟩ (.slice none 0 0)).setCell ⟨ob, 1, none⟩ (.slice BI n.ids.length dI)).setCell ⟨ob, 2, none⟩ (.slice BN n.inputs.length dN)) ob (.slice none 0 0) (.slice BI n.ids.length dI) (.slice BN n.inputs.length dN) := ((HBx.out.put0 _).put1 _).put2 _
      obtain ⟨w4, hw4⟩ : ∃ w4, w4 = ((W.setCell ⟨ob, 0, none⟩ (.slice none 0 0)).setCell ⟨ob, 1, none⟩ (.slice BI n.ids.length dI)).setCell ⟨ob, 2, none⟩ (.slice BN n.inputs.length dN) := ⟨_, rfl⟩
      rw [← hw4] at hbx4 ⊢
      have HS4 : Hid (Since wa w4) := by show Since _ _; rw [hw4]; exact (((hW.setCell hob _).setCell hob _).setCell hob _)
      have hon4 : Only [ob] W w4 := by rw [hw4]; exact ((((Only.refl _ _).setCell (.inl (by simp)) _).setCell (.inl (by simp)) _).setCell (.inl (by simp)) _)
      have hne1 := own_neN HO1.out HBx.out
      have hne2 := own_neN HO2.out HBx.out
      have HN4 : Hid (OwnNet w4 wa.heap.size (.slice none 0 0) (.slice BI n.ids.length dI) (.slice BN n.inputs.length dN) ⟨[], n.ids, n.inputs⟩ ((Value.slice BI n.ids.length dI).ownBlock.toList ++ (Value.slice BN n.inputs.length dN).ownBlock.toList) ∧ ob ∉ (Value.slice BI n.ids.length dI).ownBlock.toList ++ (Value.slice BN n.inputs.length dN).ownBlock.toList) := by
        show _ ∧ _
        refine ⟨?_, fun hm => (List.mem_append.1 hm).elim (fun hm => hne1 (by simpa using hm)) (fun hm => hne2 (by simpa using hm))⟩
        have h1 : Own w4 wa.heap.size (.slice BI n.ids.length dI) n.ids := ownsRow_stable HO1.out (fun j hj => hon4.block j (World.ownsRow.lt HO1.out j (by simpa using hj)).2 (fun e => hne1 (by simp at e; subst e; simpa using hj)))
        have h2 : Own w4 wa.heap.size (.slice BN n.inputs.length dN) n.inputs := ownsRow_stable HO2.out (fun j hj => hon4.block j (World.ownsRow.lt HO2.out j (by simpa using hj)).2 (fun e => hne2 (by simp at e; subst e; simpa using hj)))
        exact ownNet_of (S1 := []) ⟨[], [], World.ownsRow_nil _ _ _ _, rfl, fun k u x T h => by simp at h, rfl, by simp⟩ h1 h2 (by simp) (by simp) Hd3.out
      have HB4 := Lib.hid hbx4
      have Hob := Lib.hid hob
      clear hbx4 hw4 hon4 hne1 hne2 HI1 HI2 Hd3 HO1 HO2 HBx c0 c1 c2' f0 f1 f2 hW hob
      have hs4 := HS4.out
      go_wp2
      go_loopw [64] (fun i wr => ∃ (k : Nat) (v : Value) (S : List Nat), k ≤ n.ends.length ∧ i = .int .i64 k ∧ OwnNet wr wa.heap.size v (.slice BI n.ids.length dI) (.slice BN n.inputs.length dN) ⟨(List.range k).map (cutRow n kf), n.ids, n.inputs⟩ S ∧ ob ∉ S ∧ (∀ q, v.ownBlock = some q → ob + 1 ≤ q) ∧ BoxN wr ob v (.slice BI n.ids.length dI) (.slice BN n.inputs.length dN) ∧ Since wa wr) (fun i _ => n.ends.length - (intOf i).toNat)
      case atStart => exact ⟨0, _, _, Nat.zero_le _, rfl, by simpa using HN4.out.1, HN4.out.2, by simp [Value.ownBlock], HB4.out, HS4.out⟩
      case round =>
        obtain ⟨k, v, S, hk, rfl, hon, hobS, hvq, hbx, hsr⟩ := hrel
        obtain ⟨AV, cV, hV, _⟩ := id hon.read.1
        obtain ⟨mV, hmV⟩ : ∃ m, m = ((List.range k).map (cutRow n kf)).length := ⟨_, rfl⟩
        simp only [← hmV] at hV
        have HmV := Lib.hid hmV
        clear hmV
        subst hV
        have Hon := Lib.hid hon
        have HobS := Lib.hid hobS
        have Hvq := Lib.hid hvq
        have Hbx := Lib.hid hbx
        clear hs4 hon hobS hvq
        by_cases hlt : k < n.ends.length
        · obtain ⟨es, hes⟩ := getx n.ends k hlt
          have hes6 := HRow.out k es hes
          obtain ⟨b, offr, cr, ur, hA1, hkr, hc1, hrow⟩ := row_at (HNe.out wa (since_refl _)) hes
          cases hA1
          obtain ⟨A1, y1, rfl, hz1, hz2, hA1⟩ := hrow
          unfold maxLen at hz2
          have q5 := lift_cell (have_cell hc1) hsr
          have q55 := q5 wr (since_refl _)
          have HA1 := Lib.hid (show ∀ (k : Nat) (x : Int × Int), es[k]? = some x → _ from hA1)
          obtain ⟨kr, hkr, hkrl, hkri⟩ := Hkf.out.row k es hes
          have Hkri := Lib.hid hkri
          have Hkr := Lib.hid hkr
          have Hgd : Hid (n.ends.getD k [] = es) := getD_of hes
          have Hes := Lib.hid hes
          have Hsr := Lib.hid hsr
          obtain ⟨wo, hwo⟩ : ∃ wo, wo = wr := ⟨_, rfl⟩
          have Hso : Hid (Since wa wo) := by rw [hwo]; exact hsr
          rw [← hwo] at Hon Hbx
          have Hsw : Hid (Since wo wr) := by show Since _ _; rw [hwo]; exact since_refl _
          clear hc1 hA1 hes hbx hkri hkr hwo
          go_wp2
          go_loopw [13, 71] (fun u i wq => ∃ (j : Nat) (T : List Nat), j ≤ es.length ∧ i = .int .i64 j ∧ OwnE wq wo.heap.size u (cutRowU n kf k j) T ∧ Since wo wq) (fun _ i _ => es.length - (intOf i).toNat)
          case atStart => exact ⟨0, [], Nat.zero_le _, rfl, ⟨World.ownsRow_nil _ _ _ _, by simp [Value.ownBlock]⟩, Hsw.out⟩
          case round =>
            obtain ⟨j, T, hj, rfl, hoe, hsq⟩ := hrel
            have Hoe := Lib.hid hoe
            have Hsq := Lib.hid hsq
            clear hsr hoe
            have hsq2 := Hso.out.after Hsq.out
            by_cases hlj : j < es.length
            · obtain ⟨⟨x1, x2⟩, hx⟩ := getx es j hlj
              have hpt : PortAt n k j (x1, x2) := by unfold PortAt; rw [Hgd.out]; exact hx
              obtain ⟨-, p2, p3, p4, p5⟩ := port_in Hn.out hpt
              obtain ⟨a1, rfl⟩ := Int.eq_ofNat_of_zero_le p2
              obtain ⟨a2, rfl⟩ := Int.eq_ofNat_of_zero_le p4
              simp only [Int.toNat_natCast] at p5
              have ha1 : a1 < n.ends.length := by omega
              obtain ⟨hla, -⟩ := portAt_iff.1 p5
              obtain ⟨b1, off1, rfl, hd1, hd2⟩ := HA1.out j _ hx
              have t1 := bc hsq2 hd1
              have t2 := bc hsq2 hd2
              obtain ⟨gt, ot, Lt, y, ct, s1, hLt, s2⟩ : ∃ gt ot Lt y ct, (∀ W, Since wa W → W.cell? ⟨g, a1, none⟩ = some (.slice (some ⟨gt, ot, none⟩) Lt ct) ∧ Lt ≤ ct ∧ ct ≤ 9223372036854775807) ∧ a2 < Lt ∧ ∀ W, Since wa W → W.cell? ⟨gt, ot + a2, none⟩ = some (.int .i64 ((y : Nat) : Int)) ∧ y = cntK kf a1 a2 := by
                obtain ⟨AT, cT, e0, -, -, hAT⟩ := HTO.out wa (since_refl _)
                simp only [Value.slice.injEq] at e0
                obtain ⟨rfl, -, rfl⟩ := e0
                have hr0 : (toAt n kf n.ends.length 0)[a1]? = some (toRow kf a1 (n.ends.getD a1 []).length) := by rw [toAt_get ha1, if_pos ha1]
                obtain ⟨b0, o0, u0, e0, hc0, AT1, cT1, rfl, hl1, hm1, hAT1⟩ := hAT a1 _ hr0
                simp only [Option.some.injEq, Addr.mk.injEq, and_true] at e0
                obtain ⟨rfl, rfl⟩ := e0
                obtain ⟨b2, o2, rfl, hc2⟩ := hAT1 a2 _ (toRow_get kf a1 hla)
                rw [toRow_len] at hc0 hl1
                rw [Nat.zero_add] at hc0
                unfold maxLen at hm1
                exact ⟨b2, o2, _, _, cT1, fun W hW => ⟨bc hW hc0, hl1, by omega⟩, hla, fun W hW => ⟨bc hW hc2, rfl⟩⟩
              have s3 := fun W hW => (s1 W hW).1
              have s4 := fun W hW => (s2 W hW).1
              have hct := (s1 wa (since_refl _)).2
              have hct1 := hct.1
              have hct2 := hct.2
              have Hy : Hid (y = cntK kf a1 a2) := (s2 wa (since_refl _)).2
              obtain ⟨AU, mU, cU, rfl⟩ := lawE.one Hoe.out
              obtain ⟨w8, hw8⟩ : ∃ w8, w8 = wr.alloc (.cells #[.int .i64 (a1 : Int), .int .i64 (a2 : Int)] 62) := ⟨_, rfl⟩
              obtain ⟨eb, heb⟩ : ∃ eb, eb = wr.heap.size := ⟨_, rfl⟩
              have hs8 : Since wr w8 := by rw [hw8]; exact since_alloc _ (since_refl _)
              have k0 : w8.cell? ⟨eb, 0, none⟩ = some (.int .i64 (a1 : Int)) := by rw [hw8, heb]; simp
              have k1 : w8.cell? ⟨eb, 1, none⟩ = some (.int .i64 (a2 : Int)) := by rw [hw8, heb]; simp
              have hS0 : Since wa w8 ∧ w8.cell? ⟨eb, 0, none⟩ = some (.int .i64 (a1 : Int)) ∧ w8.cell? ⟨eb, 1, none⟩ = some (.int .i64 (a2 : Int)) := ⟨hsq2.after hs8, k0, k1⟩
              have HS0 := Lib.hid hS0
              have Hoc : Hid (OwnE w8 wo.heap.size (.slice AU mU cU) (cutRowU n kf k j) T) := lawE.keep Hoe.out hs8.below
              have Heb : Hid ((Value.slice AU mU cU).ownBlock ≠ some eb) := fun e => by have h7 := (lawE.range Hoe.out eb (by rw [Hoe.out.2, e]; simp)).2; omega
              have Hs8 := Lib.hid (Hsq.out.after hs8)
              have Hw8 := Lib.hid hw8
              have Heb2 := Lib.hid heb
              have Hnx := Lib.hid (cutRow_eq (kf := kf) Hgd.out hx)
              have Hln : Hid ((cutRowU n kf k j).length + 1 ≤ 1000000) := by show _ ≤ _; rw [cutRow_len]; have := cntK_le kf k j; omega
              have m3 : IntKind.i64.wrap ((j : Int) + 1) = (j : Int) + 1 := wr64 _ (by omega) (by omega)
              obtain ⟨Ak0, ck0, e0, -, -, hAk0⟩ := HKa.out w8 hS0.1
              simp only [Value.slice.injEq] at e0
              obtain ⟨rfl, -, rfl⟩ := e0
              obtain ⟨bk, ofk, uk, rfl, hck1, Ak1, ck1, rfl, hck2, hck3, hAk1⟩ := hAk0 k kr Hkr.out
              obtain ⟨bk1, ofk1, rfl, hck4⟩ := hAk1 j _ (Hkri.out j hlj)
              rw [hkrl] at hck1 hck2
              unfold maxLen at hck3
              clear hAk0 hAk1 hx hpt p2 p3 p4 p5 hd1 hd2 hs8 hS0 k0 k1 hw8 heb s1 s2 hct
              go_upto_region 22 with (fail)
              rw [← Hw8.out, ← Heb2.out]
              clear t1 t2
              cases hkk : kf k j
              · rw [hkk] at hck4 Hnx
                clear hsq2
                go_wp2
                go_roundw
                case rel => exact ⟨j + 1, T, by omega, by first | rfl | go_num, by have h7 := Hnx.out; simp only [Bool.false_eq_true, if_false, List.append_nil] at h7; rw [h7]; exact Hoc.out, Hs8.out⟩
                case measure => simp [intOf]; omega
              · rw [hkk] at hck4 Hnx
                clear hsq2
                go_upto_region 23 with (fail)
                clear hck1 hck4
                refine wp_region_chainS (fun W => Since wa W ∧ W.cell? ⟨eb, 0, none⟩ = some (.int .i64 (a1 : Int)) ∧ W.cell? ⟨eb, 1, none⟩ = some (.int .i64 (a2 : Int))) 15 [false, false, false, false, false, false, false, false, false, false, false, false, false, true, true] (by kernel_rfl) (by kernel_rfl) (show Since wa (World.drew w8) ∧ (World.drew w8).cell? ⟨eb, 0, none⟩ = some (.int .i64 (a1 : Int)) ∧ (World.drew w8).cell? ⟨eb, 1, none⟩ = some (.int .i64 (a2 : Int)) from ⟨since_drew HS0.out.1, HS0.out.2.1, HS0.out.2.2⟩) ?_
                simp only [selF, selT, List.take_succ_cons, List.take_zero, List.drop_succ_cons, List.drop_zero]
                refine pflowS_val (v := ?_) rfl ?_ ?_; rotate_left; (intro W hW; (obtain ⟨hW, k0, k1⟩ := hW); go_simp; with_reducible rfl)
                simp only [Act.put, List.setIfInBounds_toArray, List.set_cons_succ, List.set_cons_zero]
                refine pflowS_val (v := ?_) rfl ?_ ?_; rotate_left; (intro W hW; (obtain ⟨hW, k0, k1⟩ := hW); go_simp; with_reducible rfl)
                simp only [Act.put, List.setIfInBounds_toArray, List.set_cons_succ, List.set_cons_zero]
                refine pflowS_val (v := ?_) rfl ?_ ?_; rotate_left; (intro W hW; (obtain ⟨hW, k0, k1⟩ := hW); go_simp; with_reducible rfl)
                simp only [Act.put, List.setIfInBounds_toArray, List.set_cons_succ, List.set_cons_zero]
                refine pflowS_val (v := ?_) rfl ?_ ?_; rotate_left; (intro W hW; (obtain ⟨hW, k0, k1⟩ := hW); go_simp; with_reducible rfl)
                simp only [Act.put, List.setIfInBounds_toArray, List.set_cons_succ, List.set_cons_zero]
                refine pflowS_val (v := ?_) rfl ?_ ?_; rotate_left; (intro W hW; (obtain ⟨hW, k0, k1⟩ := hW); go_simp; with_reducible rfl)
                simp only [Act.put, List.setIfInBounds_toArray, List.set_cons_succ, List.set_cons_zero]
                refine pflowS_val (v := ?_) rfl ?_ ?_; rotate_left; (intro W hW; (obtain ⟨hW, k0, k1⟩ := hW); go_simp; with_reducible rfl)
                simp only [Act.put, List.setIfInBounds_toArray, List.set_cons_succ, List.set_cons_zero]
                refine pflowS_val (v := ?_) rfl ?_ ?_; rotate_left; (intro W hW; (obtain ⟨hW, k0, k1⟩ := hW); go_simp; with_reducible rfl)
                simp only [Act.put, List.setIfInBounds_toArray, List.set_cons_succ, List.set_cons_zero]
                refine pflowS_val (v := ?_) rfl ?_ ?_; rotate_left; (intro W hW; (obtain ⟨hW, k0, k1⟩ := hW); go_simp; with_reducible rfl)
                simp only [Act.put, List.setIfInBounds_toArray, List.set_cons_succ, List.set_cons_zero]
                refine pflowS_val (v := ?_) rfl ?_ ?_; rotate_left; (intro W hW; (obtain ⟨hW, k0, k1⟩ := hW); go_simp; with_reducible rfl)
                simp only [Act.put, List.setIfInBounds_toArray, List.set_cons_succ, List.set_cons_zero]
                refine pflowS_val (v := ?_) rfl ?_ ?_; rotate_left; (intro W hW; (obtain ⟨hW, k0, k1⟩ := hW); go_simp; with_reducible rfl)
                simp only [Act.put, List.setIfInBounds_toArray, List.set_cons_succ, List.set_cons_zero]
                refine pflowS_val (v := ?_) rfl ?_ ?_; rotate_left; (intro W hW; (obtain ⟨hW, k0, k1⟩ := hW); go_simp; with_reducible rfl)
                simp only [Act.put, List.setIfInBounds_toArray, List.set_cons_succ, List.set_cons_zero]
                refine pflowS_val (v := ?_) rfl ?_ ?_; rotate_left; (intro W hW; (obtain ⟨hW, k0, k1⟩ := hW); go_simp; with_reducible rfl)
                simp only [Act.put, List.setIfInBounds_toArray, List.set_cons_succ, List.set_cons_zero]
                refine pflowS_val (v := ?_) rfl ?_ ?_; rotate_left; (intro W hW; (obtain ⟨hW, k0, k1⟩ := hW); go_simp; with_reducible rfl)
                simp only [Act.put, List.setIfInBounds_toArray, List.set_cons_succ, List.set_cons_zero]
                obtain ⟨W, hWd⟩ : ∃ W, W = World.drew w8 := ⟨_, rfl⟩
                rw [← hWd]
                have hW := (show Since wa (World.drew w8) ∧ (World.drew w8).cell? ⟨eb, 0, none⟩ = some (.int .i64 (a1 : Int)) ∧ (World.drew w8).cell? ⟨eb, 1, none⟩ = some (.int .i64 (a2 : Int)) from ⟨since_drew HS0.out.1, HS0.out.2.1, HS0.out.2.2⟩)
                rw [← hWd] at hW
                have HWd := Lib.hid hWd
                clear hWd
                refine tflow_allocS (v := ?_) (ob := ?_) rfl ?_ ?_ ?_; rotate_left 2
                (go_simp; first | with_reducible rfl | (refine ⟨?_, ?_⟩ <;> with_reducible rfl))
                exact ⟨since_alloc _ hW.1, bc (below_alloc _ _) hW.2.1, bc (below_alloc _ _) hW.2.2⟩
                intro w9 hw9d hw9s
                replace hW := hw9s
                clear hw9s
                have Hd9 : Hid (w9 = (World.drew w8).alloc (.cells #[.int .i64 (a1 : Int), .int .i64 ((y : Nat) : Int)] 62)) := by show _ = _; rw [hw9d, HWd.out]
                have Ho9 : Hid (OwnE w9 wo.heap.size (.slice AU mU cU) (cutRowU n kf k j) T) := by show OwnE _ _ _ _ _; rw [Hd9.out]; exact lawE.keep (lawE.keep Hoc.out (since_drew (since_refl _)).below) (below_alloc _ _)
                have Hc9 : Hid (w9.cell? ⟨w8.heap.size, 0, none⟩ = some (.int .i64 (a1 : Int)) ∧ w9.cell? ⟨w8.heap.size, 1, none⟩ = some (.int .i64 ((y : Nat) : Int))) := by show _ ∧ _; rw [Hd9.out]; exact cell_two (World.drew w8) _ _ _
                have Hso9 : Hid (Since wo w9) := by show Since _ _; rw [Hd9.out]; exact since_alloc _ (since_drew Hs8.out)
                rw [show W.heap.size = w8.heap.size from by rw [HWd.out]; rfl]
                clear hw9d HWd
                (try simp only [Act.put, List.setIfInBounds_toArray, List.set_cons_succ, List.set_cons_zero])
                refine tflow_of_wp (fun Q' HQ => ?_)
                (refine app_endH (base := wo.heap.size) (v := .slice AU mU cU) (xs := cutRowU n kf k j) rfl _ _ rfl rfl Ho9.out w8.heap.size ((a1 : Int), ((y : Nat) : Int)) rfl Hc9.out.1 Hc9.out.2 Hln.out Hso9.out.below.size ?_); intro g9 cc9 w10 ho10 hg10 hl10; have hlo10 : (∀ q, (Value.slice AU mU cU).ownBlock = some q → wo.heap.size ≤ q) := (fun q hq => (lawE.range Ho9.out q (by rw [Ho9.out.2, hq]; simp)).1); have hs10 : Since wa w10 := (Below.grown hW.1 hg10 hW.1.below.size (fun q hq => Nat.le_trans Hso.out.below.size (hlo10 q hq))); have hon10 := Only.of_grown hg10; have hen : (⟨eb, 0, none⟩ : Addr).block ∉ (Value.slice AU mU cU).ownBlock.toList := (fun hq => Heb.out (by simpa using hq)); refine HQ _ _ ⟨hs10, hon10.cell hen hW.2.1, hon10.cell (p := ⟨eb, 1, none⟩) hen hW.2.2⟩ ?_; have Ho10 := Lib.hid ho10; have Hs10 : Hid (Since wo w10) := (show Since _ _ from Below.grown Hso9.out hg10 Hso9.out.below.size hlo10); clear ho10 hg10 hl10 hlo10 hs10 hon10 hen hW
                (try simp only [Act.put, List.setIfInBounds_toArray, List.set_cons_succ, List.set_cons_zero])
                simp only [TFlow]
                go_wp2
                go_roundw
                case rel => exact ⟨j + 1, [g9], by omega, by first | rfl | go_num, by have h7 := Hnx.out; simp only [if_true, Int.toNat_natCast] at h7; rw [h7, ← Hy.out]; have h8 := Ho10.out; simpa using h8, Hs10.out⟩
                case measure => simp [intOf]; omega
            · obtain rfl : j = es.length := by omega
              obtain ⟨AQ, mQ, cQ, rfl⟩ := lawE.one Hoe.out
              have HE : Hid (OwnE wr wo.heap.size (.slice AQ mQ cQ) (cutRow n kf k) T) := by
                have h7 := Hoe.out
                rw [show es.length = (rowOf n k).length from by unfold rowOf; rw [Hgd.out]] at h7
                exact h7
              have hbl : ob + 1 ≤ wo.heap.size := Hbx.out.lt
              obtain ⟨wT, hwT⟩ : ∃ wT, wT = trunc wo (ob + 1) := ⟨_, rfl⟩
              have hsT : Since wT wo := by rw [hwT]; exact trunc_since wo hbl
              have hTs : wT.heap.size = ob + 1 := by rw [hwT]; exact trunc_size wo hbl
              have hTa : Since wa wT := by rw [hwT]; exact since_trunc Hso.out hbl (Nat.le_succ_of_le Hob.out)
              obtain ⟨wA, hwA⟩ : ∃ wA, wA = wr.alloc (.cells #[.slice AQ mQ cQ] 60) := ⟨_, rfl⟩
              have Hw5 : Hid (Since wo wA) := by show Since _ _; rw [hwA]; exact since_alloc _ Hsq.out
              have HTA : Hid (Since wT wA) := hsT.after Hw5.out
              have HE5 : Hid (OwnE wA wa.heap.size (.slice AQ mQ cQ) (cutRow n kf k) T) := by show OwnE _ _ _ _ _; rw [hwA]; exact lawE.mono (lawE.keep HE.out (below_alloc _ _)) Hso.out.below.size
              have Hc5 : Hid (wA.cell? ⟨wr.heap.size, 0, none⟩ = some (.slice AQ mQ cQ)) := by show _ = _; rw [hwA]; simp
              have HN5 := Lib.hid (Hon.out.keep Hw5.out.below)
              have HT3 : Hid (∀ j ∈ T, wo.heap.size ≤ j) := fun j hj => (lawE.range HE.out j hj).1
              have Hd5 := Lib.hid (show ∀ j ∈ T, j ∉ S from fun j hj hS => by have := HT3.out j hj; have := (Hon.out.range j hS).2; omega)
              have Hl5 : Hid (((List.range k).map (cutRow n kf)).length + 1 ≤ 1000000) := by show _ ≤ _; simp; omega
              have Hb5 : Hid (wa.heap.size ≤ wA.heap.size) := (Hso.out.after Hw5.out).below.size
              have Hq5 : Hid (∀ q, (Value.slice AV mV cV).ownBlock = some q → wT.heap.size ≤ q) := fun q hq => by rw [hTs]; exact Hvq.out q hq
              have HwA := Lib.hid hwA
              have HTaw := Lib.hid hTa
              have Hbl := Lib.hid hbl
              have Hws : Hid (wr.heap.size = wr.heap.size) := rfl
              have hb0 := (Hbx.out.since Hsq.out).box.cells.1
              have m4 : IntKind.i64.wrap ((k : Int) + 1) = (k : Int) + 1 := wr64 _ (by omega) (by omega)
              obtain ⟨so, hso⟩ : ∃ so, so = wr.heap.size := ⟨_, rfl⟩
              have Hso2 : Hid (wo.heap.size ≤ so) := by show _ ≤ _; rw [hso]; exact Hsq.out.below.size
              have Hsoe := Lib.hid hso
              have hlen6 : ((List.range k).map (cutRow n kf) ++ [cutRow n kf k]).length = k + 1 := by simp
              have Hlen6 := Lib.hid hlen6
              clear hwT hsT hTs hTa hwA hbl hsq2 hso hlen6
              go_wp2_with (at_builtin; rw [← HwA.out]; refine app_rowN (wT := wT) (v := .slice AV mV cV) (u := .slice AQ mQ cQ) rfl _ _ rfl rfl HN5.out wr.heap.size rfl Hc5.out HE5.out Hd5.out Hl5.out HTA.out Hb5.out Hq5.out ?_; intro v6 w6 S6 hv6 hn6 hS6 hon6 hs6; have HvT := Lib.hid hv6; obtain ⟨A6, c6, hV6, _⟩ := id hn6.read.1; simp only [Hlen6.out] at hV6; subst hV6; have Hn6 := Lib.hid hn6; have HS6 := Lib.hid hS6; have Hon6 := Lib.hid hon6; have Hs6 : Hid (Since wa w6) := HTaw.out.after hs6; have Hbx6 := Lib.hid ((Hbx.out.since Hw5.out).only hon6 HobS.out); have c0 := Hbx6.out.box.cells.1; have f0 := Hbx6.out.box.cells.2.2.2.1; clear hv6 hn6 hS6 hon6 hs6)
              go_roundw
              case rel =>
                have hwAs : wA.heap.size = so + 1 := by rw [HwA.out, Hsoe.out]; simp
                have hobn : ob ∉ S6 := fun hm => by
                  have h9 := Hbl.out
                  have h10 := Hso2.out
                  rcases HS6.out ob hm with h | h | h
                  · exact HobS.out h
                  · have := HT3.out ob h; omega
                  · omega
                refine ⟨k + 1, .slice A6 (k + 1) c6, S6, by omega, by go_num, ?_, hobn, ?_, Hbx6.out.put0 _, Hs6.out.setCell Hob.out _⟩
                · have hx := Hn6.out.stable (w' := w6.setCell ⟨ob, 0, none⟩ (.slice A6 (k + 1) c6)) (fun j hj => Below.heap_setCell w6 _ _ j (fun e => hobn (by have e' : j = ob := e; exact e' ▸ hj)))
                  rw [cutEnds_succ]
                  exact hx
                · intro q hq
                  rcases HvT.out q hq with h | h
                  · exact Hvq.out q h
                  · have := Hbl.out; have := Hso2.out; omega
              case measure => simp [intOf]; omega
        · obtain rfl : k = n.ends.length := by omega
          have h01 : w0.heap.size = w.heap.size + 1 := by rw [Hw0.out]; simp
          have HR := HRb.out wr hsr
          rw [h01] at HR
          have Hza1 : Hid (w.heap.size + 1 < wa.heap.size) := by show _ < _; have := Hzb.out; omega
          obtain ⟨c0, c1, c2', _, _, _⟩ := Hbx.out.box.cells
          obtain ⟨d0, d1, d2, f0, f1, f2⟩ := HR.box.cells
          have Hsr := Lib.hid hsr
          have HR' := Lib.hid HR
          clear HR hbx hsr hlt hk h01
          go_wp2
          refine bodyPost_ret (v := .agg #[.slice AV mV cV, .slice BI n.ids.length dI, .slice BN n.inputs.length dN]) (by simp [results, Tryz.results187, go_sem, *]) rfl ?_
          have hx := Hon.out
          refine ⟨_, _, _, S, rfl, ?_, ?_⟩
          · refine (hx.stable (fun j hj => ?_)).mono (Nat.le_trans Hb0.out.size Hsa.out.below.size)
            have hj1 := (Hon.out.range j hj).1
            have hj2 := Hza1.out
            rw [Below.heap_setCell _ _ _ j (by simp; omega), Below.heap_setCell _ _ _ j (by simp; omega), Below.heap_setCell _ _ _ j (by simp; omega)]
          · exact (((Below.trans Hb0.out ((Hsa.out.after Hsr.out).below.mono Hb0.out.size)).setCell (by simp) _).setCell (by simp) _).setCell (by simp) _
end Go.Proofs.YtfkmkpamdlhbgaaGreat
namespace Go.Proofs.YtfkmkpamdlhbgaaGreat
open Go.RowKit
/-! forests: the program -/
def stubE (e : Ed) : Bool := (e.1 == e.2.2.1) && (e.2.1 == e.2.2.2)
theorem stubB_eq (n : Net) : (edgesB n).any stubE = stubB n := by
  unfold stubB
  congr 1
set_option maxHeartbeats 2000000 in
theorem stub_any (x : Ed) (w : World) : Calls Tryz.prog 141 #[.agg #[.int .i64 x.1, .int .i64 x.2.1, .int .i64 x.2.2.1, .int .i64 x.2.2.2]] w fun e w' => e = .returned (.bool (stubE x)) ∧ Below w.heap.size w w' := by
  unfold stubE
  obtain ⟨a, b, c, d⟩ := x
  obtain ⟨w0, hw0⟩ : ∃ w0, w0 = w.alloc (.cells #[.int .i64 a, .int .i64 b, .int .i64 c, .int .i64 d] 110) := ⟨_, rfl⟩
  have Hb0 : Hid (Below w.heap.size w w0) := by rw [hw0]; exact below_alloc _ _
  have p0 : ∀ W, Since w0 W → W.cell? ⟨w.heap.size, 0, none⟩ = some (.int .i64 a) := have_cell (by rw [hw0]; simp)
  have p1 : ∀ W, Since w0 W → W.cell? ⟨w.heap.size, 1, none⟩ = some (.int .i64 b) := have_cell (by rw [hw0]; simp)
  have p2 : ∀ W, Since w0 W → W.cell? ⟨w.heap.size, 2, none⟩ = some (.int .i64 c) := have_cell (by rw [hw0]; simp)
  have p3 : ∀ W, Since w0 W → W.cell? ⟨w.heap.size, 3, none⟩ = some (.int .i64 d) := have_cell (by rw [hw0]; simp)
  have Hw0 := Lib.hid hw0
  clear hw0
  go_enter Tryz.func141, Tryz.ntmps141
  go_upto_region 1 with (fail)
  rw [← Hw0.out]
  refine wp_region_flow0 13 (Since w0) (since_refl _) ?_
  simp only [List.take_succ_cons, List.take_zero, List.drop_succ_cons, List.drop_zero]
  refine flow_val (v := ?_) rfl ?_ ?_; rotate_left; (intro W hW; go_simp; with_reducible rfl)
  simp only [Act.put, List.setIfInBounds_toArray, List.set_cons_succ, List.set_cons_zero]
  refine flow_val (v := ?_) rfl ?_ ?_; rotate_left; (intro W hW; go_simp; with_reducible rfl)
  simp only [Act.put, List.setIfInBounds_toArray, List.set_cons_succ, List.set_cons_zero]
  refine flow_val (v := ?_) rfl ?_ ?_; rotate_left; (intro W hW; go_simp; with_reducible rfl)
  simp only [Act.put, List.setIfInBounds_toArray, List.set_cons_succ, List.set_cons_zero]
  refine flow_val (v := ?_) rfl ?_ ?_; rotate_left; (intro W hW; go_simp; with_reducible rfl)
  simp only [Act.put, List.setIfInBounds_toArray, List.set_cons_succ, List.set_cons_zero]
  refine flow_val (v := ?_) rfl ?_ ?_; rotate_left; (intro W hW; go_simp; with_reducible rfl)
  simp only [Act.put, List.setIfInBounds_toArray, List.set_cons_succ, List.set_cons_zero]
  refine flow_val (v := ?_) rfl ?_ ?_; rotate_left; (intro W hW; go_simp; with_reducible rfl)
  simp only [Act.put, List.setIfInBounds_toArray, List.set_cons_succ, List.set_cons_zero]
  refine flow_gval (v := ?_) rfl rfl ?_ ?_; rotate_left; (intro hb; intro W hW; go_simp; with_reducible rfl)
  simp only [Act.put, List.setIfInBounds_toArray, List.set_cons_succ, List.set_cons_zero]
  refine flow_gval (v := ?_) rfl rfl ?_ ?_; rotate_left; (intro hb; intro W hW; go_simp; with_reducible rfl)
  simp only [Act.put, List.setIfInBounds_toArray, List.set_cons_succ, List.set_cons_zero]
  refine flow_gval (v := ?_) rfl rfl ?_ ?_; rotate_left; (intro hb; intro W hW; go_simp; with_reducible rfl)
  simp only [Act.put, List.setIfInBounds_toArray, List.set_cons_succ, List.set_cons_zero]
  refine flow_gval (v := ?_) rfl rfl ?_ ?_; rotate_left; (intro hb; intro W hW; go_simp; with_reducible rfl)
  simp only [Act.put, List.setIfInBounds_toArray, List.set_cons_succ, List.set_cons_zero]
  refine flow_gval (v := ?_) rfl rfl ?_ ?_; rotate_left; (intro hb; intro W hW; go_simp; with_reducible rfl)
  simp only [Act.put, List.setIfInBounds_toArray, List.set_cons_succ, List.set_cons_zero]
  first | refine flow_and rfl rfl ?_ | (refine flow_val (v := ?_) rfl ?_ ?_; rotate_left; (intro W hW; go_simp; with_reducible rfl))
  simp only [Act.put, List.setIfInBounds_toArray, List.set_cons_succ, List.set_cons_zero]
  refine flow_val (v := ?_) rfl ?_ ?_; rotate_left; (intro W hW; go_simp; with_reducible rfl)
  simp only [Act.put, List.setIfInBounds_toArray, List.set_cons_succ, List.set_cons_zero]
  intro W hW
  go_wp2
  go_ret
  exact ⟨rfl, Since.after Hb0.out hW⟩
theorem stub_enters : ∀ args w, (callFunc 141 args).run Tryz.prog w = .ok (.enter 141 args) w := enters_of Tryz.func141 (by kernel_rfl) rfl
theorem rootsB_succ (n : Net) (k : Nat) : rootsB n (k + 1) = rootsB n k + (if leastB n k == k then 1 else 0) := by
  unfold rootsB
  rw [List.range_succ, List.countP_append]
  simp only [List.countP_cons, List.countP_nil, Nat.zero_add]
theorem rootsB_le (n : Net) (k : Nat) : rootsB n k ≤ k := by
  unfold rootsB
  exact Nat.le_trans List.countP_le_length (by simp)
set_option maxRecDepth 100000 in
set_option maxHeartbeats 8000000 in
theorem isForest_any (ve vi vn : Value) (n : Net) (w : World) (h : NetIn w ve vi vn n) (hn : netOk n = true) :
    Calls Tryz.prog 93 #[.agg #[ve, vi, vn]] w fun e w' => e = .returned (.bool (forB n)) ∧ Below w.heap.size w w' := by
  have hnl := netOk_len hn
  have hnl1 := hnl.1
  have hnl2 := hnl.2
  have Hn := Lib.hid hn
  obtain ⟨w0, hw0⟩ : ∃ w0, w0 = (w).alloc (.cells #[ve, vi, vn] 27) := ⟨_, rfl⟩
  have hb0 : Below w.heap.size w w0 := by rw [hw0]; exact ((Below.refl _ _).alloc (by simp) _)
  have H := Lib.hid (h.keep hb0)
  obtain ⟨h1, h2, h3⟩ := h.keep hb0
  obtain ⟨A, c, rfl, hlc, hm, hA⟩ := h1
  obtain ⟨A2, c2, rfl, _, hm2, _⟩ := h2
  obtain ⟨A3, c3, rfl, _, hm3, _⟩ := h3
  unfold maxLen at hm hm2 hm3
  have p00 : ∀ W, Since w0 W → W.cell? ⟨w.heap.size, 0, none⟩ = some (.slice A n.ends.length c) := have_cell (by rw [hw0]; simp)
  have p01 : ∀ W, Since w0 W → W.cell? ⟨w.heap.size, 1, none⟩ = some (.slice A2 n.ids.length c2) := have_cell (by rw [hw0]; simp)
  have p02 : ∀ W, Since w0 W → W.cell? ⟨w.heap.size, 2, none⟩ = some (.slice A3 n.inputs.length c3) := have_cell (by rw [hw0]; simp)
  have Hb0 := Lib.hid hb0
  have Hw0 := Lib.hid hw0
  have HA := Lib.hid hA
  clear hA h
  clear hb0 hw0
  have hs0 : Since w0 w0 := since_refl _
  obtain ⟨rb, hrb⟩ : ∃ rb, forB n = rb := ⟨_, rfl⟩
  have Hrb := Lib.hid hrb
  rw [hrb]
  clear hn hnl hrb
  go_enter Tryz.func93, Tryz.ntmps93
  go_upto_region 1 with (fail)
  rw [← Hw0.out]
  go_wp2_with fail
  refine (edges_any _ _ _ n w0 H.out Hn.out).mono ?_
  rintro e w1 ⟨u1, rfl, ho1, hb1⟩
  have Hs1 : Hid (Since w0 w1) := hb1
  have hcall := containsFuncD_any u1 (edgesB n) 141 #[] stubE w1 ho1.read stub_enters (fun x _ w _ => stub_any x w)
  rw [stubB_eq] at hcall
  have Hcall := Lib.hid hcall
  obtain ⟨A1, c1, rfl, hc1, hl1, _⟩ := id ho1.read
  unfold maxLen at hc1
  have hel : (edgesB n).length ≤ 240 := by have := edgesTo_len Hn.out n.ends.length; show (edgesTo n n.ends.length).length ≤ _; omega
  have Hel := Lib.hid hel
  clear hcall ho1 hb1 hs0
  go_wp2_with fail
  refine Hcall.out.mono ?_
  rintro e w2 ⟨rfl, hb2⟩
  have Hs2 := Lib.hid (Hs1.out.after hb2)
  have hs2 := Hs2.out
  clear hb2
  cases hst : stubB n
  · go_wp2_with fail
    refine (components_any _ _ _ n w2 (H.out.keep Hs2.out.below) Hn.out).mono ?_
    rintro e w3 ⟨u3, rfl, ho3, hb3⟩
    have hcl : (compB n).length = n.ends.length := by simp [compB]
    obtain ⟨gc, cc, rfl⟩ : ∃ gc cc, u3 = .slice (some ⟨gc, 0, none⟩) n.ends.length cc := by
      rcases ho3.cases with ⟨-, e1⟩ | ⟨gc, cc, rfl, hg1, hg2⟩
      · have := congrArg List.length e1; rw [hcl, List.length_nil] at this; omega
      · exact ⟨gc, cc, by rw [hcl]⟩
    have Ho3 := Lib.hid ho3
    have Hs3 := Lib.hid (Hs2.out.after hb3)
    have Hst := Lib.hid hst
    clear ho3 hb3 hcl hs2 hst
    go_wp2
    go_loopw [4, 14] (fun u i wr => ∃ k : Nat, k ≤ n.ends.length ∧ i = .int .i64 k ∧ u = .int .i64 (rootsB n k : Nat) ∧ Since w3 wr) (fun _ i _ => n.ends.length - (intOf i).toNat)
    case atStart => exact ⟨0, Nat.zero_le _, rfl, rfl, since_refl _⟩
    case round =>
      obtain ⟨k, hk, rfl, rfl, hsr⟩ := hrel
      have Hs := Lib.hid hsr
      clear hsr
      have hrk := rootsB_le n k
      by_cases hlt : k < n.ends.length
      · have m3 : IntKind.i64.wrap ((k : Int) + 1) = (k : Int) + 1 := wr64 _ (by omega) (by omega)
        have m4 : IntKind.i64.wrap ((rootsB n k : Int) + 1) = (rootsB n k : Int) + 1 := wr64 _ (by omega) (by omega)
        obtain ⟨p, hp⟩ : ∃ p, p = leastB n k := ⟨_, rfl⟩
        have c1 := (Ho3.out.since Hs.out).cell (show (compB n)[k]? = some (p : Int) by rw [hp]; unfold compB; rw [List.getElem?_map, List.getElem?_range hlt]; rfl)
        have Hn1 := rootsB_succ n k
        rw [← hp] at Hn1
        clear hp
        by_cases he : p = k
        · subst he
          rw [if_pos (by simp)] at Hn1
          have HN1 := Lib.hid Hn1
          clear Hn1
          go_wp2
          go_roundw
          case rel => exact ⟨p + 1, by omega, by first | rfl | go_num, by rw [HN1.out]; first | rfl | go_num, Hs.out⟩
          case measure => simp [intOf]; omega
        · have hbe : ((k : Int) == (p : Int)) = false := by simp; omega
          rw [if_neg (by simpa using he)] at Hn1
          have HN1 := Lib.hid Hn1
          clear Hn1 he
          go_wp2
          go_roundw
          case rel => exact ⟨k + 1, by omega, by first | rfl | go_num, by rw [HN1.out]; first | rfl | go_num, Hs.out⟩
          case measure => simp [intOf]; omega
      · obtain rfl : k = n.ends.length := by omega
        have Hs4 := Lib.hid (Hs3.out.after Hs.out)
        have q0 := p00 _ Hs4.out
        obtain ⟨R, hR⟩ : ∃ R, rootsB n n.ends.length = R := ⟨_, rfl⟩
        rw [hR] at hrk ⊢
        have m5 : IntKind.i64.wrap ((n.ends.length : Int) - (R : Int)) = (n.ends.length : Int) - (R : Int) := wr64 _ (by omega) (by omega)
        obtain ⟨E, hE⟩ : ∃ E, (edgesB n).length = E := ⟨_, rfl⟩
        have hcmp : ((E : Int) == (n.ends.length : Int) - (R : Int)) = rb := by
          rw [← Hrb.out]
          unfold forB
          rw [Hst.out, hR, hE, Bool.not_false, Bool.true_and, Bool.eq_iff_iff, beq_iff_eq, decide_eq_true_eq]
          omega
        rw [hE] at hl1 ⊢
        have Hcmp := Lib.hid hcmp
        clear hcmp hR hE hk hlt
        go_wp2
        go_ret
        exact ⟨ret_bool Hcmp.out, Since.after Hb0.out Hs4.out⟩
  · have hf : rb = false := by rw [← Hrb.out]; unfold forB; rw [hst]; rfl
    subst hf
    go_wp2
    go_ret
    exact ⟨rfl, Since.after Hb0.out Hs2.out⟩
end Go.Proofs.YtfkmkpamdlhbgaaGreat
