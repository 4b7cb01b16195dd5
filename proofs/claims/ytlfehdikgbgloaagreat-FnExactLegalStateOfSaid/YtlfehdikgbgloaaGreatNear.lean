import Derived.Test.YtlfehdikgbgloaaGreatPort
namespace Go.Proofs.YtlfehdikgbgloaaGreat
open Go.RowKit
theorem Own.since {w w' : World} {base : Nat} {v : Value} {xs : List Int} (h : Own w base v xs) (hs : Since w w') : Own w' base v xs := h.keep hs
/-- append of one integer to a row of its own, behind w0 -/
theorem app_int_s {w w0 : World} {ops : Array Oper} {rest : List Oper} {o : Oper} {a : Act} {Q : Exit → Act → World → Prop} (hgd : o.guard = none) (s x : Operand)
    (ho : o.op = .call { callee := .builtin .append, args := #[s, x], argTypes := #[23, 23] }) {v : Value} {xs : List Int} (hs : a.eval s = v) (h : Own w w0.heap.size v xs) (b : Nat) (y : Int)
    (hx : a.eval x = .slice (some ⟨b, 0, none⟩) 1 1) (hc : w.cell? ⟨b, 0, none⟩ = some (.int .i64 y)) (hl : xs.length + 1 ≤ 17592186044416) (hsn : Since w0 w)
    (k : ∀ g cap w', Own w' w0.heap.size (.slice (some ⟨g, 0, none⟩) (xs.length + 1) cap) (xs ++ [y]) → Since w0 w' → wpList Tryz.prog ops Q rest (a.put o.dst (.slice (some ⟨g, 0, none⟩) (xs.length + 1) cap)) w') : wpList Tryz.prog ops Q (o :: rest) a w := by
  refine app_int hgd s x ho hs h b y hx hc hl hsn.size ?_
  intro g cap w' h1 h2 h3 h4
  exact k g cap w' h1 (Below.grown hsn h2 hsn.size (fun j hj => (World.ownsRow.lt h j hj).1))
theorem row_at {w : World} {v : Value} {ess : List (List (Int × Int))} {k : Nat} {es : List (Int × Int)} (h : EndSS w v ess) (hes : ess[k]? = some es) :
    ∃ (b off c : Nat) (u : Value), v = .slice (some ⟨b, off, none⟩) ess.length c ∧ k < ess.length ∧ w.cell? ⟨b, off + k, none⟩ = some u ∧ EndS w u es := by
  obtain ⟨A, c, rfl, hlc, hm, hA⟩ := h
  obtain ⟨b, off, u, rfl, hc, hrow⟩ := hA k es hes
  exact ⟨b, off, c, u, rfl, lt_of_get hes, hc, hrow⟩
set_option maxHeartbeats 4000000 in
theorem neNear_any (ve vi vn : Value) (n : Net) (k : Nat) (es : List (Int × Int)) (w : World) (h : NetIn w ve vi vn n) (hes : n.ends[k]? = some es) (hle : es.length ≤ 1000000) :
    Calls Tryz.prog 112 #[.agg #[ve, vi, vn], .int .i64 k] w fun e w' => ∃ u, e = .returned u ∧ Own w' w.heap.size u (es.map (·.1)) ∧ Below w.heap.size w w' := by
  obtain ⟨w0, hw0⟩ : ∃ w0, w0 = (w).alloc (.cells #[ve, vi, vn] 31) := ⟨_, rfl⟩
  have hb0 : Below w.heap.size w w0 := by rw [hw0]; exact ((Below.refl _ _).alloc (by simp) _)
  have H := Lib.hid (h.keep hb0)
  obtain ⟨h1, h2, h3⟩ := h.keep hb0
  obtain ⟨A, c, rfl, hlc, hm, hA⟩ := h1
  obtain ⟨A2, c2, rfl, _, hm2, _⟩ := h2
  obtain ⟨A3, c3, rfl, _, hm3, _⟩ := h3
  unfold maxLen at hm hm2 hm3
  have p00 : ∀ W, Since w0 W → W.cell? ⟨w.heap.size, 0, none⟩ = some (.slice A n.ends.length c) := have_cell (by rw [hw0]; simp)
  have p01 : ∀ W, Since w0 W → W.cell? ⟨w.heap.size, 1, none⟩ = some (.slice A2 n.ids.length c2) := have_cell (by rw [hw0]; simp)
  have p02 : ∀ W, Since w0 W → W.cell? ⟨w.heap.size, 2, none⟩ = some (.slice A3 n.inputs.length c3) := have_cell (by rw [hw0]; simp)
  have Hb0 := Lib.hid hb0
  have Hw0 := Lib.hid hw0
  have HA := Lib.hid hA
  clear hA h
  clear hb0 hw0
  obtain ⟨b, off, c', u, hA, hk, hc1, hrow⟩ := row_at H.out.es hes
  cases hA
  obtain ⟨A1, z1, rfl, hz1, hz2, hA1⟩ := hrow
  unfold maxLen at hz2
  have r1 := have_cell hc1
  have HA1 := Lib.hid hA1
  clear hc1 hA1 hes
  go_enter Tryz.func112, Tryz.ntmps112
  go_upto_region 1 with (fail)
  rw [← Hw0.out]
  have hs0 : Since w0 w0 := since_refl _
  go_wp2
  go_loopw [5, 14] (fun u i wr => ∃ j : Nat, j ≤ es.length ∧ i = .int .i64 j ∧ Own wr w0.heap.size u ((es.take j).map (·.1)) ∧ Since w0 wr) (fun _ i _ => es.length - (intOf i).toNat)
  case atStart => exact ⟨0, Nat.zero_le _, rfl, by simpa using own_nil w0 w0.heap.size, hs0⟩
  case round =>
    obtain ⟨j, hj, rfl, ho, hs⟩ := hrel
    have Ho := Lib.hid ho
    clear hs0 ho
    by_cases hlt : j < es.length
    · obtain ⟨⟨x1, x2⟩, hx⟩ := getx es j hlt
      obtain ⟨b1, off1, rfl, hd1, hd2⟩ := HA1.out j _ hx
      have t1 := have_cell hd1
      have t2 := have_cell hd2
      have Hx := Lib.hid hx
      clear hx hd1 hd2
      have hlen : ((es.take j).map (·.1)).length + 1 ≤ 17592186044416 := by simp; omega
      have Hlen := Lib.hid hlen
      clear hlen
      go_wp2_with (at_builtin; refine app_int_s rfl _ _ rfl rfl (Ho.out.since (since_alloc _ (since_alloc _ (since_refl _)))) (wr.heap.size + 1) x1 rfl (by simp [go_sem]) Hlen.out (since_alloc _ (since_alloc _ hs)) ?_; intro g cc w2 ho2 hs2)
      have E2 : Hid (((es.take j).map (·.1)).length = j) := by show _ = _; simp; omega
      have e1 : (es.take j).map (·.1) ++ [x1] = (es.take (j + 1)).map (·.1) := by rw [take_snoc Hx.out]; simp
      rw [e1] at ho2
      have Ho2 := Lib.hid ho2
      have Hs2 := Lib.hid hs2
      clear ho2 hs2 hs e1
      go_wp2
      go_roundw
      case rel => exact ⟨j + 1, by omega, by go_num, by first | exact Ho2.out | (have := Ho2.out; rw [E2.out] at this; exact this), Hs2.out⟩
      case measure => simp [intOf]; omega
    · obtain rfl : j = es.length := by omega
      go_wp2
      go_ret
      exact ⟨_, rfl, by have := Ho.out; rw [List.take_length] at this; exact this.mono Hb0.out.size, Since.after Hb0.out hs⟩
/-- the numbers of the neighbours -/
def nearB (ls : List Int) (es : List (Int × Int)) : List Int := es.map fun e => ls.getD e.1.toNat 0
theorem seen_mem {ls : List Int} {es : List (Int × Int)} {j : Nat} {x : Int × Int} {l y : Int} (hx : es[j]? = some x) (hg : ls.getD x.1.toNat 0 = y) : y ∈ l :: nearB ls es := List.mem_cons_of_mem _ (List.mem_map.2 ⟨x, List.mem_of_getElem? hx, hg⟩)
theorem seen_in {ls : List Int} {es : List (Int × Int)} {k : Nat} {l y : Int} (hk : ls[k]? = some l) (hin : ∀ e ∈ es, 0 ≤ e.1 ∧ e.1 < ls.length) (h : y ∈ l :: nearB ls es) : y ∈ ls := by
  rcases List.mem_cons.1 h with rfl | h
  · exact List.mem_of_getElem? hk
  · obtain ⟨e, he, rfl⟩ := List.mem_map.1 h
    obtain ⟨h1, h2⟩ := hin e he
    have : e.1.toNat < ls.length := by omega
    rw [List.getD_eq_getElem?_getD, List.getElem?_eq_getElem this]
    exact List.getElem_mem this
set_option maxHeartbeats 4000000 in
theorem near_any (ve vi vn vl : Value) (n : Net) (ls : List Int) (k : Nat) (es : List (Int × Int)) (w : World) (h : NetIn w ve vi vn n) (hl : IntS w vl ls) (hes : n.ends[k]? = some es) (hle : es.length ≤ 1000000) (hin : ∀ e ∈ es, 0 ≤ e.1 ∧ e.1 < ls.length) :
    Calls Tryz.prog 118 #[.agg #[ve, vi, vn], .int .i64 k, vl] w fun e w' => ∃ u, e = .returned u ∧ Own w' w.heap.size u (nearB ls es) ∧ Below w.heap.size w w' := by
  obtain ⟨w0, hw0⟩ : ∃ w0, w0 = (w).alloc (.cells #[ve, vi, vn] 31) := ⟨_, rfl⟩
  have hb0 : Below w.heap.size w w0 := by rw [hw0]; exact ((Below.refl _ _).alloc (by simp) _)
  have H := Lib.hid (h.keep hb0)
  obtain ⟨h1, h2, h3⟩ := h.keep hb0
  obtain ⟨A, c, rfl, hlc, hm, hA⟩ := h1
  obtain ⟨A2, c2, rfl, _, hm2, _⟩ := h2
  obtain ⟨A3, c3, rfl, _, hm3, _⟩ := h3
  unfold maxLen at hm hm2 hm3
  have p00 : ∀ W, Since w0 W → W.cell? ⟨w.heap.size, 0, none⟩ = some (.slice A n.ends.length c) := have_cell (by rw [hw0]; simp)
  have p01 : ∀ W, Since w0 W → W.cell? ⟨w.heap.size, 1, none⟩ = some (.slice A2 n.ids.length c2) := have_cell (by rw [hw0]; simp)
  have p02 : ∀ W, Since w0 W → W.cell? ⟨w.heap.size, 2, none⟩ = some (.slice A3 n.inputs.length c3) := have_cell (by rw [hw0]; simp)
  have Hb0 := Lib.hid hb0
  have Hw0 := Lib.hid hw0
  have HA := Lib.hid hA
  clear hA h
  clear hb0 hw0
  obtain ⟨b, off, c', u, hA, hk, hc1, hrow⟩ := row_at H.out.es hes
  cases hA
  obtain ⟨A1, z1, rfl, hz1, hz2, hA1⟩ := hrow
  unfold maxLen at hz2
  have r1 := have_cell hc1
  have HA1 := Lib.hid hA1
  have HL := Lib.hid (hl.keep Hb0.out)
  have Hin := Lib.hid hin
  obtain ⟨AL, cL, rfl, hlL, hmL, _⟩ := hl
  unfold maxLen at hmL
  clear hc1 hA1 hes hin
  go_enter Tryz.func118, Tryz.ntmps118
  go_upto_region 1 with (fail)
  rw [← Hw0.out]
  have hs0 : Since w0 w0 := since_refl _
  go_wp2
  go_loopw [7, 16] (fun u i wr => ∃ j : Nat, j ≤ es.length ∧ i = .int .i64 j ∧ Own wr w0.heap.size u (nearB ls (es.take j)) ∧ Since w0 wr) (fun _ i _ => es.length - (intOf i).toNat)
  case atStart => exact ⟨0, Nat.zero_le _, rfl, by simpa [nearB] using own_nil w0 w0.heap.size, hs0⟩
  case round =>
    obtain ⟨j, hj, rfl, ho, hs⟩ := hrel
    have Ho := Lib.hid ho
    clear hs0 ho
    by_cases hlt : j < es.length
    · obtain ⟨⟨x1, x2⟩, hx⟩ := getx es j hlt
      obtain ⟨b1, off1, rfl, hd1, hd2⟩ := HA1.out j _ hx
      obtain ⟨i1, i2⟩ := Hin.out _ (List.mem_of_getElem? hx)
      simp only at i1 i2
      obtain ⟨m1, bl, ol, cl, y, rfl, hv, hm1, hg0, hg1, hd3⟩ := lab_at HL.out i1 i2
      cases hv
      have t1 := have_cell hd1
      have t2 := have_cell hd2
      have t3 := have_cell hd3
      have Hx := Lib.hid hx
      have Hg := Lib.hid hg1
      clear hx hd1 hd2 hd3 hg0 hg1
      have hlen : (nearB ls (es.take j)).length + 1 ≤ 17592186044416 := by simp [nearB]; omega
      have Hlen := Lib.hid hlen
      have hsz := (Since.below hs).size
      clear hlen
      go_wp2_with (at_builtin; refine app_int_s rfl _ _ rfl rfl (Ho.out.since (since_alloc _ (since_alloc _ (since_refl _)))) (wr.heap.size + 1) y rfl (by simp [go_sem]) Hlen.out (since_alloc _ (since_alloc _ hs)) ?_; intro g cc w2 ho2 hs2)
      have E2 : Hid ((nearB ls (es.take j)).length = j) := by show _ = _; simp [nearB]; omega
      have e1 : nearB ls (es.take j) ++ [y] = nearB ls (es.take (j + 1)) := by rw [take_snoc Hx.out]; simp only [nearB, List.map_append, List.map_cons, List.map_nil, Hg.out]
      rw [e1] at ho2
      have Ho2 := Lib.hid ho2
      have Hs2 := Lib.hid hs2
      clear ho2 hs2 hs e1
      go_wp2
      go_roundw
      case rel => exact ⟨j + 1, by omega, by go_num, by first | exact Ho2.out | (have := Ho2.out; rw [E2.out] at this; exact this), Hs2.out⟩
      case measure => simp [intOf]; omega
    · obtain rfl : j = es.length := by omega
      go_wp2
      go_ret
      exact ⟨_, rfl, by have := Ho.out; rw [List.take_length] at this; exact this.mono Hb0.out.size, Since.after Hb0.out hs⟩
theorem oneIf_any (b : Bool) (w : World) : Calls Tryz.prog 121 #[.bool b] w fun e w' => e = .returned (.int .i64 (if b then 1 else 0)) ∧ w = w' := by
  cases b
  · go_enter Tryz.func121, Tryz.ntmps121
    go_wp2
    go_ret
    exact ⟨rfl, rfl⟩
  · go_enter Tryz.func121, Tryz.ntmps121
    go_wp2
    go_ret
    exact ⟨rfl, rfl⟩
end Go.Proofs.YtlfehdikgbgloaaGreat
