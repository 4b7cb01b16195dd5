/- Parts of the proof: walks of functions and plain laws. -/
import Derived.Test.YtomnaabadohecaaGreatP10
import Derived.Test.YtomnaabadohecaaGreatP0
import Derived.Lib.SliceRun
import Derived.Test.YtomnaabadohecaaGreatP5
import Derived.Laws.EntriesVeiled
namespace Go.Proofs.YtomnaabadohecaaGreat
open Go.RowKit
theorem Own.since {w w' : World} {base : Nat} {v : Value} {xs : List Int} (h : Own w base v xs) (hs : Since w w') : Own w' base v xs := h.keep hs
/-- append of one integer to a row of its own, behind w0 -/
theorem app_int_s {w w0 : World} {ops : Array Oper} {rest : List Oper} {o : Oper} {a : Act} {Q : Exit → Act → World → Prop} (hgd : o.guard = none) (s x : Operand)
    (ho : o.op = .call { callee := .builtin .append, args := #[s, x], argTypes := #[24, 24] }) {v : Value} {xs : List Int} (hs : a.eval s = v) (h : Own w w0.heap.size v xs) (b : Nat) (y : Int)
    (hx : a.eval x = .slice (some ⟨b, 0, none⟩) 1 1) (hc : w.cell? ⟨b, 0, none⟩ = some (.int .i64 y)) (hl : xs.length + 1 ≤ 17592186044416) (hsn : Since w0 w)
    (k : ∀ g cap w', Own w' w0.heap.size (.slice (some ⟨g, 0, none⟩) (xs.length + 1) cap) (xs ++ [y]) → Since w0 w' → wpList Tryz.prog ops Q rest (a.put o.dst (.slice (some ⟨g, 0, none⟩) (xs.length + 1) cap)) w') : wpList Tryz.prog ops Q (o :: rest) a w := by
  refine app_int hgd s x ho hs h b y hx hc hl hsn.size ?_
  intro g cap w' h1 h2 h3 h4
  exact k g cap w' h1 (Below.grown hsn h2 hsn.size (fun j hj => (World.ownsRow.lt h j hj).1))
theorem row_at {w : World} {v : Value} {ess : List (List (Int × Int))} {k : Nat} {es : List (Int × Int)} (h : EndSS w v ess) (hes : ess[k]? = some es) :
    ∃ (b off c : Nat) (u : Value), v = .slice (some ⟨b, off, none⟩) ess.length c ∧ k < ess.length ∧ w.cell? ⟨b, off + k, none⟩ = some u ∧ EndS w u es := by
  obtain ⟨A, c, rfl, hlc, hm, hA⟩ := h
  obtain ⟨b, off, u, rfl, hc, hrow⟩ := hA k es hes
  exact ⟨b, off, c, u, rfl, lt_of_get hes, hc, hrow⟩
set_option maxHeartbeats 4000000 in
theorem neNear_any (ve vi vn : Value) (n : Net) (k : Nat) (es : List (Int × Int)) (w : World) (h : NetIn w ve vi vn n) (hes : n.ends[k]? = some es) (hle : es.length ≤ 1000000) :
    Calls Tryz.prog 237 #[.agg #[ve, vi, vn], .int .i64 k] w fun e w' => ∃ u, e = .returned u ∧ Own w' w.heap.size u (es.map (·.1)) ∧ Below w.heap.size w w' := by
  obtain ⟨w0, hw0⟩ : ∃ w0, w0 = (w).alloc (.cells #[ve, vi, vn] 43) := ⟨_, rfl⟩
  have hb0 : Below w.heap.size w w0 := by rw [hw0]; exact ((Below.refl _ _).alloc (by simp) _)
  have H := Lib.hid (h.keep hb0)
  obtain ⟨h1, h2, h3⟩ := h.keep hb0
  obtain ⟨A, c, rfl, hlc, hm, hA⟩ := h1
  obtain ⟨A2, c2, rfl, _, hm2, _⟩ := h2
  obtain ⟨A3, c3, rfl, _, hm3, _⟩ := h3
  unfold maxLen at hm hm2 hm3
  have p00 : ∀ W, Since w0 W → W.cell? ⟨w.heap.size, 0, none⟩ = some (.slice A n.ends.length c) := have_cell (by rw [hw0]; simp)
  have p01 : ∀ W, Since w0 W → W.cell? ⟨w.heap.size, 1, none⟩ = some (.slice A2 n.ids.length c2) := have_cell (by rw [hw0]; simp)
  have p02 : ∀ W, Since w0 W → W.cell? ⟨w.heap.size, 2, none⟩ = some (.slice A3 n.inputs.length c3) := have_cell (by rw [hw0]; simp)
  have Hb0 := Lib.hid hb0
  have Hw0 := Lib.hid hw0
  have HA := Lib.hid hA
  clear hA h
  clear hb0 hw0
  obtain ⟨b, off, c', u, hA, hk, hc1, hrow⟩ := row_at H.out.es hes
  cases hA
  obtain ⟨A1, z1, rfl, hz1, hz2, hA1⟩ := hrow
  unfold maxLen at hz2
  have r1 := have_cell hc1
  have HA1 := Lib.hid hA1
  clear hc1 hA1 hes
  go_enter Tryz.func237, Tryz.ntmps237
  go_upto_region 1 with (fail)
  rw [← Hw0.out]
  have hs0 : Since w0 w0 := since_refl _
  go_wp2
  go_loopw [5, 14] (fun u i wr => ∃ j : Nat, j ≤ es.length ∧ i = .int .i64 j ∧ Own wr w0.heap.size u ((es.take j).map (·.1)) ∧ Since w0 wr) (fun _ i _ => es.length - (intOf i).toNat)
  case atStart => exact ⟨0, Nat.zero_le _, rfl, by simpa using own_nil w0 w0.heap.size, hs0⟩
  case round =>
    obtain ⟨j, hj, rfl, ho, hs⟩ := hrel
    have Ho := Lib.hid ho
    clear hs0 ho
    by_cases hlt : j < es.length
    · obtain ⟨⟨x1, x2⟩, hx⟩ := getx es j hlt
      obtain ⟨b1, off1, rfl, hd1, hd2⟩ := HA1.out j _ hx
      have t1 := have_cell hd1
      have t2 := have_cell hd2
      have Hx := Lib.hid hx
      clear hx hd1 hd2
      have hlen : ((es.take j).map (·.1)).length + 1 ≤ 17592186044416 := by simp; omega
      have Hlen := Lib.hid hlen
      clear hlen
      go_wp2_with (at_builtin; refine app_int_s rfl _ _ rfl rfl (Ho.out.since (since_alloc _ (since_alloc _ (since_refl _)))) (wr.heap.size + 1) x1 rfl (by simp [go_sem]) Hlen.out (since_alloc _ (since_alloc _ hs)) ?_; intro g cc w2 ho2 hs2)
      have E2 : Hid (((es.take j).map (·.1)).length = j) := by show _ = _; simp; omega
      have e1 : (es.take j).map (·.1) ++ [x1] = (es.take (j + 1)).map (·.1) := by rw [take_snoc Hx.out]; simp
      rw [e1] at ho2
      have Ho2 := Lib.hid ho2
      have Hs2 := Lib.hid hs2
      clear ho2 hs2 hs e1
      go_wp2
      go_roundw
      case rel => exact ⟨j + 1, by omega, by go_num, by first | exact Ho2.out | (have := Ho2.out; rw [E2.out] at this; exact this), Hs2.out⟩
      case measure => simp [intOf]; omega
    · obtain rfl : j = es.length := by omega
      go_wp2
      go_ret
      exact ⟨_, rfl, by have := Ho.out; rw [List.take_length] at this; exact this.mono Hb0.out.size, Since.after Hb0.out hs⟩
/-- the numbers of the neighbours -/
def nearB (ls : List Int) (es : List (Int × Int)) : List Int := es.map fun e => ls.getD e.1.toNat 0
theorem seen_mem {ls : List Int} {es : List (Int × Int)} {j : Nat} {x : Int × Int} {l y : Int} (hx : es[j]? = some x) (hg : ls.getD x.1.toNat 0 = y) : y ∈ l :: nearB ls es := List.mem_cons_of_mem _ (List.mem_map.2 ⟨x, List.mem_of_getElem? hx, hg⟩)
theorem seen_in {ls : List Int} {es : List (Int × Int)} {k : Nat} {l y : Int} (hk : ls[k]? = some l) (hin : ∀ e ∈ es, 0 ≤ e.1 ∧ e.1 < ls.length) (h : y ∈ l :: nearB ls es) : y ∈ ls := by
  rcases List.mem_cons.1 h with rfl | h
  · exact List.mem_of_getElem? hk
  · obtain ⟨e, he, rfl⟩ := List.mem_map.1 h
    obtain ⟨h1, h2⟩ := hin e he
    have : e.1.toNat < ls.length := by omega
    rw [List.getD_eq_getElem?_getD, List.getElem?_eq_getElem this]
    exact List.getElem_mem this
set_option maxHeartbeats 4000000 in
theorem near_any (ve vi vn vl : Value) (n : Net) (ls : List Int) (k : Nat) (es : List (Int × Int)) (w : World) (h : NetIn w ve vi vn n) (hl : IntS w vl ls) (hes : n.ends[k]? = some es) (hle : es.length ≤ 1000000) (hin : ∀ e ∈ es, 0 ≤ e.1 ∧ e.1 < ls.length) :
    Calls Tryz.prog 189 #[.agg #[ve, vi, vn], .int .i64 k, vl] w fun e w' => ∃ u, e = .returned u ∧ Own w' w.heap.size u (nearB ls es) ∧ Below w.heap.size w w' := by
  obtain ⟨w0, hw0⟩ : ∃ w0, w0 = (w).alloc (.cells #[ve, vi, vn] 43) := ⟨_, rfl⟩
  have hb0 : Below w.heap.size w w0 := by rw [hw0]; exact ((Below.refl _ _).alloc (by simp) _)
  have H := Lib.hid (h.keep hb0)
  obtain ⟨h1, h2, h3⟩ := h.keep hb0
  obtain ⟨A, c, rfl, hlc, hm, hA⟩ := h1
  obtain ⟨A2, c2, rfl, _, hm2, _⟩ := h2
  obtain ⟨A3, c3, rfl, _, hm3, _⟩ := h3
  unfold maxLen at hm hm2 hm3
  have p00 : ∀ W, Since w0 W → W.cell? ⟨w.heap.size, 0, none⟩ = some (.slice A n.ends.length c) := have_cell (by rw [hw0]; simp)
  have p01 : ∀ W, Since w0 W → W.cell? ⟨w.heap.size, 1, none⟩ = some (.slice A2 n.ids.length c2) := have_cell (by rw [hw0]; simp)
  have p02 : ∀ W, Since w0 W → W.cell? ⟨w.heap.size, 2, none⟩ = some (.slice A3 n.inputs.length c3) := have_cell (by rw [hw0]; simp)
  have Hb0 := Lib.hid hb0
  have Hw0 := Lib.hid hw0
  have HA := Lib.hid hA
  clear hA h
  clear hb0 hw0
  obtain ⟨b, off, c', u, hA, hk, hc1, hrow⟩ := row_at H.out.es hes
  cases hA
  obtain ⟨A1, z1, rfl, hz1, hz2, hA1⟩ := hrow
  unfold maxLen at hz2
  have r1 := have_cell hc1
  have HA1 := Lib.hid hA1
  have HL := Lib.hid (hl.keep Hb0.out)
  have Hin := Lib.hid hin
  obtain ⟨AL, cL, rfl, hlL, hmL, _⟩ := hl
  unfold maxLen at hmL
  clear hc1 hA1 hes hin
  go_enter Tryz.func189, Tryz.ntmps189
  go_upto_region 1 with (fail)
  rw [← Hw0.out]
  have hs0 : Since w0 w0 := since_refl _
  go_wp2
  go_loopw [7, 16] (fun u i wr => ∃ j : Nat, j ≤ es.length ∧ i = .int .i64 j ∧ Own wr w0.heap.size u (nearB ls (es.take j)) ∧ Since w0 wr) (fun _ i _ => es.length - (intOf i).toNat)
  case atStart => exact ⟨0, Nat.zero_le _, rfl, by simpa [nearB] using own_nil w0 w0.heap.size, hs0⟩
  case round =>
    obtain ⟨j, hj, rfl, ho, hs⟩ := hrel
    have Ho := Lib.hid ho
    clear hs0 ho
    by_cases hlt : j < es.length
    · obtain ⟨⟨x1, x2⟩, hx⟩ := getx es j hlt
      obtain ⟨b1, off1, rfl, hd1, hd2⟩ := HA1.out j _ hx
      obtain ⟨i1, i2⟩ := Hin.out _ (List.mem_of_getElem? hx)
      simp only at i1 i2
      obtain ⟨m1, bl, ol, cl, y, rfl, hv, hm1, hg0, hg1, hd3⟩ := lab_at HL.out i1 i2
      cases hv
      have t1 := have_cell hd1
      have t2 := have_cell hd2
      have t3 := have_cell hd3
      have Hx := Lib.hid hx
      have Hg := Lib.hid hg1
      clear hx hd1 hd2 hd3 hg0 hg1
      have hlen : (nearB ls (es.take j)).length + 1 ≤ 17592186044416 := by simp [nearB]; omega
      have Hlen := Lib.hid hlen
      have hsz := (Since.below hs).size
      clear hlen
      go_wp2_with (at_builtin; refine app_int_s rfl _ _ rfl rfl (Ho.out.since (since_alloc _ (since_alloc _ (since_refl _)))) (wr.heap.size + 1) y rfl (by simp [go_sem]) Hlen.out (since_alloc _ (since_alloc _ hs)) ?_; intro g cc w2 ho2 hs2)
      have E2 : Hid ((nearB ls (es.take j)).length = j) := by show _ = _; simp [nearB]; omega
      have e1 : nearB ls (es.take j) ++ [y] = nearB ls (es.take (j + 1)) := by rw [take_snoc Hx.out]; simp only [nearB, List.map_append, List.map_cons, List.map_nil, Hg.out]
      rw [e1] at ho2
      have Ho2 := Lib.hid ho2
      have Hs2 := Lib.hid hs2
      clear ho2 hs2 hs e1
      go_wp2
      go_roundw
      case rel => exact ⟨j + 1, by omega, by go_num, by first | exact Ho2.out | (have := Ho2.out; rw [E2.out] at this; exact this), Hs2.out⟩
      case measure => simp [intOf]; omega
    · obtain rfl : j = es.length := by omega
      go_wp2
      go_ret
      exact ⟨_, rfl, by have := Ho.out; rw [List.take_length] at this; exact this.mono Hb0.out.size, Since.after Hb0.out hs⟩
theorem oneIf_any (b : Bool) (w : World) : Calls Tryz.prog 254 #[.bool b] w fun e w' => e = .returned (.int .i64 (if b then 1 else 0)) ∧ w = w' := by
  cases b
  · go_enter Tryz.func254, Tryz.ntmps254
    go_wp2
    go_ret
    exact ⟨rfl, rfl⟩
  · go_enter Tryz.func254, Tryz.ntmps254
    go_wp2
    go_ret
    exact ⟨rfl, rfl⟩
end Go.Proofs.YtomnaabadohecaaGreat
namespace Go.Proofs.YtomnaabadohecaaGreat
theorem addMod {m x : Int} (hx : 0 ≤ x) (h : x < m) : (x + 1) % m = if x + 1 = m then 0 else x + 1 := by
  split
  · rename_i e; rw [e]; exact Int.emod_self
  · exact Int.emod_eq_of_lt (by omega) (by omega)
theorem subMod {m l : Int} (hl : 0 ≤ l) (h : l < m) : (l + m - 1) % m = if l = 0 then m - 1 else l - 1 := by
  split
  · rename_i e; subst e; rw [show (0 : Int) + m - 1 = m - 1 by omega]; exact Int.emod_eq_of_lt (by omega) (by omega)
  · rw [show l + m - 1 = (l - 1) + m by omega, Int.add_emod_right]; exact Int.emod_eq_of_lt (by omega) (by omega)
/-- the program's test of a node -/
def modI (m l : Int) (xs : List Int) : Bool :=
  decide (xs.countP (fun x => (x + 1) % m == l) ≤ 1) && (xs.countP (fun x => (x + 1) % m == l) + xs.countP (fun x => x == (l + 1) % m) == xs.length) && (xs.countP (fun x => (x + 1) % m == l) == 1 || l == 0)
/-- the reference's test of a node -/
def modS (m l : Int) (xs : List Int) : Bool :=
  (xs.all fun x => x == (l + m - 1) % m || x == (l + 1) % m) && (xs.countP (fun x => x == (l + m - 1) % m) == 1 || (xs.countP (fun x => x == (l + m - 1) % m) == 0 && l == 0))
theorem mod_less {m l x : Int} (hm : 3 ≤ m) (hl : 0 ≤ l) (hlm : l < m) (hx : 0 ≤ x) (hxm : x < m) : ((x + 1) % m == l) = (x == (l + m - 1) % m) := by
  rw [addMod hx hxm, subMod hl hlm, Bool.eq_iff_iff, beq_iff_eq, beq_iff_eq]
  split <;> split <;> omega
theorem mod_both {m l x : Int} (hm : 3 ≤ m) (hl : 0 ≤ l) (hlm : l < m) (h : x = (l + m - 1) % m) : ¬ x = (l + 1) % m := by
  rw [subMod hl hlm] at h
  rw [addMod hl hlm]
  split at h <;> split <;> omega
theorem count_sum {p q : Int → Bool} {xs : List Int} (hd : ∀ x ∈ xs, p x = true → q x = false) : xs.countP p + xs.countP q ≤ xs.length ∧ (xs.countP p + xs.countP q = xs.length ↔ ∀ x ∈ xs, p x = true ∨ q x = true) := by
  induction xs with
  | nil => simp
  | cons a xs ih =>
    have ih := ih (fun x hx => hd x (List.mem_cons_of_mem _ hx))
    have ha := hd a (by simp)
    rw [List.countP_cons, List.countP_cons, List.length_cons]
    cases hp : p a
    · cases hq : q a
      · simp only [Bool.false_eq_true, if_false, List.forall_mem_cons, hp, hq, false_or, false_and, iff_false]
        omega
      · simp only [Bool.false_eq_true, if_false, if_true, List.forall_mem_cons, hp, hq, or_true, true_and]
        refine ⟨by omega, ?_⟩
        rw [← ih.2]; omega
    · have hq := ha hp
      simp only [Bool.false_eq_true, if_false, if_true, List.forall_mem_cons, hp, hq, true_or, true_and]
      refine ⟨by omega, ?_⟩
      rw [← ih.2]; omega
theorem mod_eq {m l : Int} {xs : List Int} (hm : 3 ≤ m) (hl : 0 ≤ l) (hlm : l < m) (hx : ∀ x ∈ xs, 0 ≤ x ∧ x < m) : modI m l xs = modS m l xs := by
  have hc : xs.countP (fun x => (x + 1) % m == l) = xs.countP (fun x => x == (l + m - 1) % m) := by
    apply List.countP_congr
    intro x hxm
    rw [mod_less hm hl hlm (hx x hxm).1 (hx x hxm).2]
  have hs := count_sum (p := fun x => x == (l + m - 1) % m) (q := fun x => x == (l + 1) % m) (xs := xs) (fun x _ hp => by
    simp only [beq_iff_eq] at hp
    simpa using mod_both hm hl hlm hp)
  unfold modI modS
  rw [hc]
  generalize xs.countP (fun x => x == (l + m - 1) % m) = a at *
  generalize xs.countP (fun x => x == (l + 1) % m) = b at *
  rw [Bool.eq_iff_iff]
  simp only [Bool.and_eq_true, decide_eq_true_eq, beq_iff_eq, Bool.or_eq_true, List.all_eq_true] at *
  rw [← hs.2]
  constructor
  · rintro ⟨⟨h1, h2⟩, h3⟩
    refine ⟨h2, ?_⟩
    rcases h3 with h3 | h3
    · exact .inl h3
    · rcases Nat.eq_zero_or_pos a with h | h
      · exact .inr ⟨h, h3⟩
      · exact .inl (by omega)
  · rintro ⟨h1, h2⟩
    rcases h2 with h2 | ⟨h2, h3⟩
    · exact ⟨⟨by omega, h1⟩, .inl h2⟩
    · exact ⟨⟨by omega, h1⟩, .inr h3⟩
end Go.Proofs.YtomnaabadohecaaGreat
namespace Go.Proofs.YtomnaabadohecaaGreat
open Go.RowKit
theorem netOk_row {n : Net} (h : netOk n = true) {k : Nat} {es : List (Int × Int)} (hes : n.ends[k]? = some es) : es.length ≤ 6 ∧ ∀ e ∈ es, 0 ≤ e.1 ∧ e.1 < n.ends.length := by
  have hk := lt_of_get hes
  have h' := h
  unfold netOk at h
  rw [Bool.and_eq_true, List.all_eq_true] at h
  have := h.2 k (List.mem_range.2 hk)
  rw [getD_of hes] at this
  unfold rowOkB at this
  rw [Bool.and_eq_true, List.all_eq_true] at this
  refine ⟨by simpa using this.1, fun e he => ?_⟩
  obtain ⟨j, hj⟩ := List.getElem?_of_mem he
  have := this.2 j (List.mem_range.2 (lt_of_get hj))
  rw [getD_of hj] at this
  unfold endOkB at this
  rw [Bool.and_eq_true] at this
  exact hasPort_lt this.1
theorem cast_beq1 (c : Nat) : ((c : Int) == 1) = (c == 1) := by rw [Bool.eq_iff_iff]; simp; omega
theorem cast_beq0 (c : Nat) : ((c : Int) == 0) = (c == 0) := by rw [Bool.eq_iff_iff]; simp
theorem countP_snoc {p : Int → Bool} {xs : List Int} {y : Int} : (xs ++ [y]).countP p = xs.countP p + if p y then 1 else 0 := by
  rw [List.countP_append]; simp [List.countP_cons]
end Go.Proofs.YtomnaabadohecaaGreat
namespace Go.Proofs.YtomnaabadohecaaGreat
open Go.RowKit
theorem Own.cut {w : World} {base g n c : Nat} {xs : List Int} (h : Own w base (.slice (some ⟨g, 0, none⟩) n c) xs) (i : Nat) (hi : i ≤ n) : Own w base (.slice (some ⟨g, 0, none⟩) i c) (xs.take i) := by
  obtain rfl := h.len
  unfold Own at *
  have hl : (xs.take i).length = i := by simp; omega
  rw [hl]
  rcases h.2 with ⟨h', _⟩ | ⟨g', cap, cur, h', hb, hg, hnc, hm, hcs, htake⟩
  · simp at h'
  · simp only [Value.slice.injEq, Option.some.injEq, Addr.mk.injEq, and_true, true_and] at h'
    obtain ⟨rfl, rfl, rfl⟩ := h'
    refine ⟨by simp; omega, .inr ⟨g, c, cur, rfl, hb, hg, by omega, hm, hcs, ?_⟩⟩
    rw [List.map_take, ← htake, List.take_take]
    congr 1
    simp; omega
theorem Own.clear {base g n c : Nat} (m : Nat) : ∀ {w : World} {xs : List Int} (o : Nat), Own w base (.slice (some ⟨g, 0, none⟩) n c) xs → ∃ ys, Own (w.setCells g o (List.replicate m (.int .i64 0))) base (.slice (some ⟨g, 0, none⟩) n c) ys ∧ ys.take o = xs.take o := by
  induction m with
  | zero => intro w xs o h; exact ⟨xs, h, rfl⟩
  | succ m ih =>
    intro w xs o h
    obtain ⟨ys, h1, h2⟩ := ih (o + 1) (h.set (k := o) 0)
    refine ⟨ys, h1, ?_⟩
    have := congrArg (List.take o) h2
    rw [List.take_take, List.take_take, Nat.min_eq_left (by omega)] at this
    rw [this]
    apply List.ext_getElem?
    intro j
    rw [List.getElem?_take, List.getElem?_take]
    split
    · rw [List.getElem?_set_ne (by omega)]
    · rfl
theorem since_cells {w0 : World} {g : Nat} (hg : w0.heap.size ≤ g) (vs : List Value) : ∀ (w : World) (o : Nat), Since w0 w → Since w0 (w.setCells g o vs) := by
  induction vs with
  | nil => intro w o h; exact h
  | cons v vs ih => intro w o h; exact ih _ _ (Below.setCell h hg v)
def keptB (p : Int → Bool) (xs : List Int) : List Int := xs.filter fun x => !p x
theorem kept_le (p : Int → Bool) (xs : List Int) : (keptB p xs).length ≤ xs.length := List.length_filter_le _ _
set_option maxRecDepth 100000 in
set_option maxHeartbeats 4000000 in
theorem deleteFunc_any (v : Value) (xs : List Int) (fid : FuncId) (caps : Array Value) (p : Int → Bool) (w w0 : World) (h : Own w w0.heap.size v xs) (hs : Since w0 w) (hl : xs.length ≤ 17592186044416) (henter : ∀ args w, (callFunc fid args).run Tryz.prog w = .ok (.enter fid args) w)
    (hp : PredOn w0 fid caps p xs) : Calls Tryz.prog 153 #[v, .func (.func fid) #[] caps] w fun e w' => ∃ u, e = .returned u ∧ Own w' w0.heap.size u (keptB p xs) ∧ Since w0 w' := by
  have Hp := Lib.hid hp
  have HI := Lib.hid h.ints
  have hI := indexFunc_any v xs fid caps p w h.ints henter (hp.keep hs)
  have HIF := Lib.hid hI
  have eg := henter
  cases hany : xs.any p
  · have e1 : fidx p xs = -1 := fidx_none hany
    have e2 : keptB p xs = xs := by
      unfold keptB
      rw [List.filter_eq_self]
      intro x hx
      rw [List.any_eq_false] at hany
      simpa using hany x hx
    rw [e2]
    rw [e1] at HIF
    have Ho := Lib.hid h
    have Hs := Lib.hid hs
    clear h hs hI hany e1 e2 hp henter
    go_enter Tryz.func153, Tryz.ntmps153
    go_wp2_with fail
    refine HIF.out.mono ?_
    rintro e w1 ⟨rfl, hb1⟩
    have Hb1 := Lib.hid hb1
    clear hb1
    go_wp2
    go_ret
    exact ⟨_, rfl, Ho.out.keep Hb1.out, Since.trans Hs.out Hb1.out⟩
  · rcases h.cases with ⟨rfl, rfl⟩ | ⟨g, c, rfl, hg1, hg2⟩
    · simp at hany
    · obtain ⟨k0, x0, hk0, hx0, hno⟩ : ∃ k x, xs[k]? = some x ∧ p x = true ∧ (xs.take k).any p = false := by
        cases hf : xs.findIdx? p with
        | none =>
          rw [List.findIdx?_eq_none_iff] at hf
          rw [List.any_eq_true] at hany
          obtain ⟨x, hx, hpx⟩ := hany
          rw [hf x hx] at hpx; cases hpx
        | some i =>
          rw [List.findIdx?_eq_some_iff_getElem] at hf
          obtain ⟨hi, hpi, hall⟩ := hf
          refine ⟨i, xs[i], List.getElem?_eq_getElem hi, hpi, ?_⟩
          rw [List.any_eq_false]
          intro x hx
          obtain ⟨j, hj, rfl⟩ := List.mem_take_iff_getElem.1 hx
          simpa using hall j (by omega)
      have e1 : fidx p xs = k0 := fidx_found hk0 hx0 hno
      have hk0l := lt_of_get hk0
      have e2 : keptB p (xs.take (k0 + 1)) = xs.take k0 := by
        rw [take_snoc hk0]
        unfold keptB
        rw [List.filter_append, List.filter_eq_self.2 (fun x hx => by rw [List.any_eq_false] at hno; simpa using hno x hx)]
        simp [hx0]
      rw [e1] at HIF
      have hm := h.bd
      unfold maxLen at hm
      have Ho := Lib.hid h
      have Hs := Lib.hid hs
      have E2 := Lib.hid e2
      have hne1 : ((k0 : Int) == -1) = false := beq_eq_false_iff_ne.2 (by omega)
      have hle : Hid (∀ j, (keptB p (xs.take j)).length ≤ j) := fun j => Nat.le_trans (kept_le _ _) (by simp; omega)
      clear h hs hI hany e1 e2 hp henter hk0 hx0 hno
      go_enter Tryz.func153, Tryz.ntmps153
      go_wp2_with fail
      refine HIF.out.mono ?_
      rintro e w1 ⟨rfl, hb1⟩
      have Hb1 := Lib.hid hb1
      clear hb1
      go_wp2
      go_loopw [5, 6] (fun i j wr => ∃ (jn : Nat) (ys : List Int), k0 < jn ∧ jn ≤ xs.length ∧ j = .int .i64 jn ∧ i = .int .i64 ((keptB p (xs.take jn)).length : Nat) ∧ (keptB p (xs.take jn)).length < jn ∧ Own wr w0.heap.size (.slice (some ⟨g, 0, none⟩) xs.length c) ys ∧ ys.length = xs.length ∧ ys.take (keptB p (xs.take jn)).length = keptB p (xs.take jn) ∧ ys.drop jn = xs.drop jn ∧ Since w0 wr) (fun _ j _ => xs.length - (intOf j).toNat)
      case atStart =>
        have e3 : (keptB p (xs.take (k0 + 1))).length = k0 := by rw [E2.out]; simp; omega
        exact ⟨k0 + 1, xs, by omega, by omega, by go_num, by rw [e3], by omega, Ho.out.keep Hb1.out, rfl, by rw [e3, E2.out], rfl, Since.trans Hs.out Hb1.out⟩
      case round =>
        obtain ⟨jn, ys, hj1, hj2, rfl, rfl, hij, ho, hyl, ht, hdr, hsr⟩ := hrel
        generalize hi : (keptB p (xs.take jn)).length = i at *
        have Ho2 := Lib.hid ho
        have Hyl := Lib.hid hyl
        have Ht := Lib.hid ht
        have Hdr := Lib.hid hdr
        have Hi := Lib.hid hi
        have Hsr := Lib.hid hsr
        by_cases hlt : jn < xs.length
        · obtain ⟨x, hx⟩ := getx xs jn hlt
          have hyx : ys[jn]? = some x := by
            have := congrArg (fun l => l[0]?) hdr
            simp only [List.getElem?_drop, Nat.add_zero] at this
            rw [this]; exact hx
          have cx := ho.cell hyx
          obtain ⟨z, hz⟩ := getx ys i (by omega)
          have cz := ho.cell hz
          have fz := ho.free i
          have Hx := Lib.hid hx
          have hks : Hid (keptB p (xs.take (jn + 1)) = keptB p (xs.take jn) ++ if p x then [] else [x]) := by
            show _ = _
            rw [take_snoc hx]
            unfold keptB
            rw [List.filter_append]
            congr 1
            cases hpx : p x <;> simp [hpx]
          clear ho hyl ht hdr hi hsr hx hyx hz
          cases hpx : p x
          · have Hpx := Lib.hid hpx
            clear hpx
            go_wp2_with fail
            refine (Hp.out x (List.mem_of_getElem? Hx.out) _ Hsr.out).mono ?_
            rintro e w2 ⟨rfl, hb2⟩
            rw [Hpx.out]
            have ho3 := Ho2.out.keep hb2
            have cz2 := bc hb2 cz
            have fz2 := ho3.free i
            have Ho3 := Lib.hid (ho3.set (k := i) x)
            have Hs3 := Lib.hid (Below.setCell (p := ⟨g, i, none⟩) (Since.trans Hsr.out hb2) hg1 (.int .i64 x))
            clear hb2 ho3 cz cx fz
            go_wp2
            go_roundw
            case rel =>
              refine ⟨jn + 1, ys.set i x, by omega, by omega, by go_num, ?_, ?_, Ho3.out, by simp [Hyl.out], ?_, ?_, Hs3.out⟩
              · rw [hks.out, Hpx.out]; simp [Hi.out]
              · rw [hks.out, Hpx.out]; simp [Hi.out]; omega
              · rw [hks.out, Hpx.out]
                simp only [Bool.false_eq_true, if_false, List.length_append, List.length_cons, List.length_nil, Nat.zero_add, Hi.out]
                have hset : (ys.set i x)[i]? = some x := by rw [List.getElem?_set_self (by have := Hyl.out; omega)]
                rw [take_snoc hset]
                congr 1
                rw [← Ht.out]
                apply List.ext_getElem?
                intro q
                rw [List.getElem?_take, List.getElem?_take]
                split
                · rw [List.getElem?_set_ne (by omega)]
                · rfl
              · have := congrArg (List.drop 1) Hdr.out
                rw [List.drop_drop, List.drop_drop] at this
                rw [← this]
                apply List.ext_getElem?
                intro q
                rw [List.getElem?_drop, List.getElem?_drop, List.getElem?_set_ne (by omega)]
            case measure => simp [intOf]; omega
          · have Hpx := Lib.hid hpx
            clear hpx
            go_wp2_with fail
            refine (Hp.out x (List.mem_of_getElem? Hx.out) _ Hsr.out).mono ?_
            rintro e w2 ⟨rfl, hb2⟩
            rw [Hpx.out]
            have Ho3 := Lib.hid (Ho2.out.keep hb2)
            have Hs3 := Lib.hid (Since.trans Hsr.out hb2)
            clear hb2 cz cx fz
            go_wp2
            go_roundw
            case rel =>
              refine ⟨jn + 1, ys, by omega, by omega, by go_num, by rw [hks.out, Hpx.out]; simp [Hi.out], by rw [hks.out, Hpx.out]; simp [Hi.out]; omega, Ho3.out, Hyl.out, by rw [hks.out, Hpx.out]; simp [Hi.out, Ht.out], ?_, Hs3.out⟩
              have := congrArg (List.drop 1) Hdr.out
              rwa [List.drop_drop, List.drop_drop] at this
            case measure => simp [intOf]; omega
        · obtain rfl : jn = xs.length := by omega
          have hcl : ∀ ty, (Builtin.clear_ #[24] ty #[.slice (some ⟨g, i, none⟩) (xs.length - i) (c - i)]).run Tryz.prog wr = .ok (.tuple #[]) (wr.setCells g i (List.replicate (xs.length - i) (.int .i64 0))) :=
            fun ty => Lib.run_clear_slice wr _ _ ty _ Tryz.underlying24 (fun w => by kernel_rfl) rfl rfl g i _ _ (by omega) (fun t ht' => by
              obtain ⟨z, hz⟩ := getx ys (i + t) (by omega)
              rw [ho.cell hz]; rfl) (fun t ht' => ho.free _)
          obtain ⟨zs, hz1, hz2⟩ := ho.clear (m := xs.length - i) (w := wr) i
          have Hz1 := Lib.hid (hz1.cut i (by omega))
          have Hz2 := Lib.hid hz2
          have Hs3 := Lib.hid (since_cells hg1 (List.replicate (xs.length - i) (.int .i64 0)) wr i hsr)
          have hnc : xs.length ≤ c ∧ c ≤ 9223372036854775807 := by
            rcases ho.2 with ⟨h', _⟩ | ⟨g', cap, cur, h', hb, hg, hnc, hm, hcs, htake⟩
            · simp at h'
            · simp only [Value.slice.injEq, Option.some.injEq, Addr.mk.injEq, and_true] at h'
              unfold maxLen at hm
              omega
          obtain ⟨hnc, hcm⟩ := hnc
          have hic : i ≤ c := by omega
          clear ho hyl ht hdr hi hsr hz1 hz2 hlt hj1 hj2 hl
          go_wp2
          go_ret
          refine ⟨_, rfl, ?_, Hs3.out⟩
          have h1 := Hz1.out
          rw [Hz2.out, Ht.out, List.take_length] at h1
          exact h1
end Go.Proofs.YtomnaabadohecaaGreat
namespace Go.Proofs.YtomnaabadohecaaGreat
open Go.RowKit
theorem Own.grown {w w' : World} {base : Nat} {v : Value} {xs : List Int} {row : Option Nat} (h : Own w base v xs) (hg : w.grownBy w' row) (hd : ∀ q, v.ownBlock = some q → row ≠ some q) : Own w' base v xs :=
  ownsRow_stable h fun q hq => hg.block q (World.ownsRow.lt h q (by simpa using hq)).2 (fun e => hd q (by simpa using hq) e.symm)
/-- append of a whole row of integers -/
theorem app_ints {w : World} {ops : Array Oper} {rest : List Oper} {o : Oper} {a : Act} {Q : Exit → Act → World → Prop} (hgd : o.guard = none) (s x : Operand)
    (ho : o.op = .call { callee := .builtin .append, args := #[s, x], argTypes := #[24, 24] }) {base : Nat} {v : Value} {xs : List Int} (hs : a.eval s = v) (h : Own w base v xs) (b off c : Nat) (ys : List Int)
    (hx : a.eval x = .slice (some ⟨b, off, none⟩) ys.length c) (hc : ∀ j y, ys[j]? = some y → w.cell? ⟨b, off + j, none⟩ = some (.int .i64 y)) (hy : 0 < ys.length) (hl : xs.length + ys.length ≤ 17592186044416) (hbase : base ≤ w.heap.size)
    (k : ∀ g cap w', Own w' base (.slice (some ⟨g, 0, none⟩) (xs.length + ys.length) cap) (xs ++ ys) → w.grownBy w' v.ownBlock → (v.ownBlock = some g ∨ g = w.heap.size) → g < w'.heap.size → wpList Tryz.prog ops Q rest (a.put o.dst (.slice (some ⟨g, 0, none⟩) (xs.length + ys.length) cap)) w') : wpList Tryz.prog ops Q (o :: rest) a w := by
  obtain ⟨i0, hi, hz0, hz1, hz2⟩ := info_parts int_info
  refine wpList_append_lies w hgd s x 24 ho base 3 i0 (.int .i64 0) 1 8 Tryz.underlying24 hi hz0 hz1 hz2 rfl (by decide) v xs.length (xs.map (Value.int .i64)) hs h ⟨b, off, none⟩ ys.length c (ys.map (Value.int .i64)) hx (by simp)
    (by
      intro j u hj
      rw [List.getElem?_map] at hj
      cases hyj : ys[j]? with
      | none => rw [hyj] at hj; simp at hj
      | some y =>
        rw [hyj] at hj
        simp at hj
        subst hj
        rw [Go.Addr.add_lit]
        exact hc j y hyj) (by simp [Value.oneCell']) hy (by unfold maxLen; omega) (by omega) hbase w.heap.size rfl ?_
  intro g cap w' h1 h2 h3 h4
  refine k g cap w' ?_ h2 h3 h4
  unfold Own
  simpa using h1
set_option maxHeartbeats 2000000 in
theorem l1Own_any (v : Value) (xs : List Int) (w : World) (h : IntS w v xs) (h0' : 0 < xs.length) (hl : xs.length ≤ 17592186044416) :
    Calls Tryz.prog 171 #[v] w fun e w' => ∃ u, e = .returned u ∧ Own w' w.heap.size u xs ∧ Below w.heap.size w w' := by
  obtain ⟨A, c, rfl, hlc, hm, hA⟩ := h
  unfold maxLen at hm
  have ho := own_lit w [] (by simp [maxLen])
  simp only [List.map_nil, List.length_nil] at ho
  obtain ⟨y0, hy0⟩ := getx xs 0 (by omega)
  obtain ⟨b, off, rfl, _⟩ := hA 0 y0 hy0
  have HA : Hid (∀ j y, xs[j]? = some y → w.cell? ⟨b, off + j, none⟩ = some (.int .i64 y)) := fun j y hj => by
    obtain ⟨b', off', e, hc⟩ := hA j y hj
    cases e
    exact hc
  have Ho := Lib.hid ho
  clear hA hy0 ho
  go_enter Tryz.func171, Tryz.ntmps171
  go_wp2_with (at_builtin; refine app_ints rfl _ _ rfl rfl Ho.out b off c xs rfl (fun j y hj => bc (below_alloc _ _) (HA.out j y hj)) h0' (by simpa using hl) (by simp) ?_; intro g cc w2 ho2 hg2 _ _)
  simp only [List.length_nil, Nat.zero_add, List.nil_append] at ho2 ⊢
  have Ho2 := Lib.hid ho2
  have Hb2 : Hid (Below w.heap.size w w2) := (below_alloc w _).grown hg2 (by simp) (fun j hj => (World.ownsRow.lt Ho.out j hj).1)
  clear ho2 hg2
  go_wp2
  go_ret
  exact ⟨_, rfl, Ho2.out, Hb2.out⟩
end Go.Proofs.YtomnaabadohecaaGreat
namespace Go.Proofs.YtomnaabadohecaaGreat
open Go.RowKit
end Go.Proofs.YtomnaabadohecaaGreat
namespace Go.Proofs.YtomnaabadohecaaGreat
open Go.RowKit
def rejNode (n : Net) (m : Int) (ls : List Int) (v : Int) : Bool := modS m (ls.getD v.toNat 0) (nearB ls (n.ends.getD v.toNat []))
def fnExactRejectModulo_r1 (n : Net) (m : Int) (ls : List Int) : Bool := netOk n && inB 3 40 m && ((ls.length : Int) == (n.ends.length : Int)) && ls.all (inB 0 (m - 1))
def fnExactRejectModulo_d (n : Net) (m : Int) (ls : List Int) : List Int := if fnExactRejectModulo_r1 n m ls then keptB (rejNode n m ls) (upto ls.length) else []
/-- what a node of good labels has -/
theorem rej_at {n : Net} {m : Int} {ls : List Int} (h : fnExactRejectModulo_r1 n m ls = true) {k : Nat} (hk : k < ls.length) :
    ∃ es l, n.ends[k]? = some es ∧ ls[k]? = some l ∧ es.length ≤ 6 ∧ (∀ e ∈ es, 0 ≤ e.1 ∧ e.1 < ls.length) ∧ 3 ≤ m ∧ m ≤ 40 ∧ 0 ≤ l ∧ l < m ∧ (∀ x ∈ nearB ls es, 0 ≤ x ∧ x < m) ∧ rejNode n m ls k = modS m l (nearB ls es) ∧ modI m l (nearB ls es) = modS m l (nearB ls es) := by
  unfold fnExactRejectModulo_r1 at h
  simp only [Bool.and_eq_true, beq_iff_eq] at h
  obtain ⟨⟨⟨h1, h2⟩, h3⟩, h4⟩ := h
  have hm := inB_iff.1 h2
  have hl : ls.length = n.ends.length := by omega
  obtain ⟨es, hes⟩ := getx n.ends k (by omega)
  obtain ⟨l, hl'⟩ := getx ls k hk
  obtain ⟨r1, r2⟩ := netOk_row h1 hes
  rw [List.all_eq_true] at h4
  have ha : ∀ x ∈ ls, 0 ≤ x ∧ x < m := fun x hx => by have := inB_iff.1 (h4 x hx); omega
  have hll := ha l (List.mem_of_getElem? hl')
  have hin : ∀ e ∈ es, 0 ≤ e.1 ∧ e.1 < ls.length := fun e he => by rw [hl]; exact r2 e he
  have hx : ∀ x ∈ nearB ls es, 0 ≤ x ∧ x < m := fun x hx => by
    obtain ⟨e, he, rfl⟩ := List.mem_map.1 hx
    obtain ⟨i1, i2⟩ := hin e he
    have : e.1.toNat < ls.length := by omega
    rw [List.getD_eq_getElem?_getD, List.getElem?_eq_getElem this]
    exact ha _ (List.getElem_mem this)
  exact ⟨es, l, hes, hl', r1, hin, hm.1, hm.2, hll.1, hll.2, hx, by simp [rejNode, hes, hl'], mod_eq hm.1 hll.1 hll.2 hx⟩
theorem kept_snoc (p : Int → Bool) (k : Nat) : keptB p (upto (k + 1)) = keptB p (upto k) ++ if p k then [] else [(k : Int)] := by
  rw [upto_snoc]
  unfold keptB
  rw [List.filter_append]
  congr 1
  cases h : p (k : Int) <;> simp [h]
def allB (ls : List Int) (lo hi : Int) : Bool := ls.all (inB lo hi)
theorem l1All_b (v : Value) (xs : List Int) (lo hi : Int) (w : World) (h : IntS w v xs) :
    Calls Tryz.prog 147 #[v, .int .i64 lo, .int .i64 hi] w fun e w' => e = .returned (.bool (allB xs lo hi)) ∧ w = w' := l1All_any v xs lo hi w h
theorem allWithin_b (v : Value) (xs : List Int) (lo hi : Int) (w : World) (h : IntS w v xs) :
    Calls Tryz.prog 152 #[v, .int .i64 lo, .int .i64 hi] w fun e w' => e = .returned (.bool (allB xs lo hi)) ∧ Below w.heap.size w w' := allWithin_any v xs lo hi w h
theorem rej_wrap {a c : Bool} {m : Int} (h : (a || !inB 3 40 m || c) = false) : IntKind.i64.wrap (m - 1) = m - 1 := by
  simp only [Bool.or_eq_false_iff, Bool.not_eq_false'] at h
  have := inB_iff.1 h.1.2
  exact wr64 _ (by omega) (by omega)
end Go.Proofs.YtomnaabadohecaaGreat
namespace Go.Proofs.YtomnaabadohecaaGreat
open Go.RowKit
/-- the verifier of remainders as a value -/
theorem rej_len {n : Net} {m : Int} {ls : List Int} (h : fnExactRejectModulo_r1 n m ls = true) : ls.length ≤ 1000000 := by
  unfold fnExactRejectModulo_r1 at h
  simp only [Bool.and_eq_true, beq_iff_eq] at h
  have := netOk_len h.1.1.1
  omega
theorem fnExactRejectModulo_dl (n : Net) (m : Int) (ls : List Int) (_ : szNet n ≤ 1048576) (hb : ls.length ≤ 1048576) : (fnExactRejectModulo_d n m ls).length ≤ 4611686018427387904 := by
  unfold fnExactRejectModulo_d
  split
  · have := kept_le (rejNode n m ls) (upto ls.length)
    rw [upto_len] at this
    omega
  · simp
end Go.Proofs.YtomnaabadohecaaGreat
namespace Go.Proofs.YtomnaabadohecaaGreat
open Go.RowKit
/-! the search for solutions, plain law -/
structure Prob where
  labels : Int
  degree : Int
  nodes : List (List Int)
  edges : List (List Int)
def sortI (xs : List Int) : List Int := xs.mergeSort fun x y => decide (x ≤ y)
/-- the order of lists -/
def cmpL : List Int → List Int → Int
  | [], [] => 0
  | [], _ :: _ => -1
  | _ :: _, [] => 1
  | a :: x, b :: y => if a < b then -1 else if b < a then 1 else cmpL x y
theorem cmpL_refl (x : List Int) : cmpL x x = 0 := by
  induction x with
  | nil => rfl
  | cons a x ih => simp [cmpL, ih]
theorem cmpL_eq {x y : List Int} (h : cmpL x y = 0) : x = y := by
  induction x generalizing y with
  | nil => cases y with
    | nil => rfl
    | cons b y => simp [cmpL] at h
  | cons a x ih => cases y with
    | nil => simp [cmpL] at h
    | cons b y =>
      simp only [cmpL] at h
      split at h
      · omega
      · split at h
        · omega
        · rw [ih h, show a = b by omega]
theorem cmpL_lt_trans {x y z : List Int} (h : cmpL x y < 0) (k : cmpL y z < 0) : cmpL x z < 0 := by
  induction x generalizing y z with
  | nil => cases z with
    | nil => cases y with
      | nil => simp [cmpL] at k
      | cons => simp [cmpL] at k
    | cons => simp [cmpL]
  | cons a x ih =>
    cases y with
    | nil => simp [cmpL] at h
    | cons b y =>
      cases z with
      | nil => simp [cmpL] at k
      | cons c z =>
        simp only [cmpL] at h k ⊢
        split at h
        · split at k
          · rw [if_pos (by omega)]; omega
          · split at k
            · omega
            · rw [if_pos (by omega)]; omega
        · split at h
          · omega
          · split at k
            · rw [if_pos (by omega)]; omega
            · split at k
              · omega
              · rw [if_neg (by omega), if_neg (by omega)]
                exact ih h k
theorem cmpL_swap (x y : List Int) : cmpL x y = - cmpL y x := by
  induction x generalizing y with
  | nil => cases y <;> simp [cmpL]
  | cons a x ih => cases y with
    | nil => simp [cmpL]
    | cons b y =>
      simp only [cmpL]
      by_cases h1 : a < b
      · rw [if_pos h1, if_neg (by omega), if_pos h1]
      · by_cases h2 : b < a
        · rw [if_neg h1, if_pos h2, if_pos h2]; rfl
        · rw [if_neg h1, if_neg h2, if_neg h2, if_neg h1, ih]
theorem cmpL_range (x y : List Int) : cmpL x y = -1 ∨ cmpL x y = 0 ∨ cmpL x y = 1 := by
  induction x generalizing y with
  | nil => cases y <;> simp [cmpL]
  | cons a x ih => cases y with
    | nil => simp [cmpL]
    | cons b y =>
      simp only [cmpL]
      split
      · exact .inl rfl
      · split
        · exact .inr (.inr rfl)
        · exact ih y
/-- what the first difference says -/
theorem cmpL_drop {x y : List Int} (k : Nat) (h : x.take k = y.take k) (hx : k ≤ x.length) (hy : k ≤ y.length) : cmpL x y = cmpL (x.drop k) (y.drop k) := by
  induction k generalizing x y with
  | zero => simp
  | succ k ih =>
    cases x with
    | nil => simp at hx
    | cons a x => cases y with
      | nil => simp at hy
      | cons b y =>
        simp only [List.take_succ_cons, List.cons.injEq] at h
        simp only [cmpL, List.drop_succ_cons]
        rw [if_neg (by omega), if_neg (by omega)]
        exact ih h.2 (by simpa using hx) (by simpa using hy)
theorem cmpL_diff {x y : List Int} (k : Nat) {a b : Int} (h : x.take k = y.take k) (hx : x[k]? = some a) (hy : y[k]? = some b) (hab : a ≠ b) : cmpL x y = if a < b then -1 else 1 := by
  have h1 := (List.getElem?_eq_some_iff.1 hx)
  have h2 := (List.getElem?_eq_some_iff.1 hy)
  obtain ⟨l1, e1⟩ := h1
  obtain ⟨l2, e2⟩ := h2
  rw [cmpL_drop k h (by omega) (by omega), List.drop_eq_getElem_cons l1, List.drop_eq_getElem_cons l2, e1, e2]
  simp only [cmpL]
  split
  · rfl
  · rw [if_pos (by omega)]
/-- strictly ordered lists -/
def Strict (l : List (List Int)) : Prop := ∀ (i j : Nat) (x y : List Int), i < j → l[i]? = some x → l[j]? = some y → cmpL x y < 0
theorem strict_of_adj {l : List (List Int)} (h : ∀ (i : Nat) (x y : List Int), l[i]? = some x → l[i + 1]? = some y → cmpL x y < 0) : Strict l := by
  intro i j x y hij hx hy
  induction j generalizing y with
  | zero => omega
  | succ j ih =>
    rcases Nat.lt_or_ge i j with h1 | h1
    · obtain ⟨z, hz⟩ : ∃ z, l[j]? = some z := by
        have := (List.getElem?_eq_some_iff.1 hy).1
        exact ⟨l[j]'(by omega), List.getElem?_eq_getElem (by omega)⟩
      exact cmpL_lt_trans (ih z h1 hz) (h j z y hz hy)
    · obtain rfl : i = j := by omega
      exact h i x y hx hy
/-- what the binary search tells -/
theorem find_iff {l : List (List Int)} {t : List Int} {i : Nat} (hs : Strict l) (h1 : ∀ k x, k < i → l[k]? = some x → cmpL x t < 0) (h2 : ∀ k x, i ≤ k → l[k]? = some x → ¬ cmpL x t < 0) :
    (match l[i]? with | some x => cmpL x t == 0 | none => false) = l.contains t := by
  have key : l.contains t = true ↔ ∃ k : Nat, l[k]? = some t := by
    rw [List.contains_iff_mem, List.mem_iff_getElem?]
  cases hx : l[i]? with
  | none =>
    symm
    rw [Bool.eq_false_iff]
    intro hc
    obtain ⟨k, hk⟩ := key.1 hc
    have e1 : l.length ≤ i := List.getElem?_eq_none_iff.1 hx
    have e2 := (List.getElem?_eq_some_iff.1 hk).1
    have := h1 k t (by omega) hk
    rw [cmpL_refl] at this
    omega
  | some x =>
    by_cases h0 : cmpL x t = 0
    · have := cmpL_eq h0
      subst this
      simp only [h0, beq_self_eq_true]
      exact (key.2 ⟨i, hx⟩).symm
    · have hf : (cmpL x t == 0) = false := by simpa using h0
      simp only [hf]
      symm
      rw [Bool.eq_false_iff]
      intro hc
      obtain ⟨k, hk⟩ := key.1 hc
      rcases Nat.lt_trichotomy k i with h | h | h
      · have := h1 k t h hk
        rw [cmpL_refl] at this
        omega
      · subst h; rw [hx] at hk; cases hk; exact h0 (cmpL_refl _)
      · have := hs i k x t h hx hk
        exact h2 i x (Nat.le_refl _) hx this
/-- a list of configurations -/
def sortedB (c : List Int) : Bool := (List.range (c.length - 1)).all fun i => decide (c.getD i 0 ≤ c.getD (i + 1) 0)
def rowB (size labels : Int) (c : List Int) : Bool := ((c.length : Int) == size) && (sortedB c && allB c 0 (labels - 1))
def cfgAt (l : List (List Int)) (size labels : Int) (i : Nat) : Bool := rowB size labels (l.getD i []) && (i == 0 || decide (cmpL (l.getD (i - 1) []) (l.getD i []) < 0))
def cfgs (l : List (List Int)) (size labels : Int) : Bool := (List.range l.length).all (cfgAt l size labels)
theorem cfgs_iff {l : List (List Int)} {size labels : Int} : cfgs l size labels = true ↔ ∀ i, i < l.length → cfgAt l size labels i = true := by simp [cfgs, List.all_eq_true]
theorem cfgs_no {l : List (List Int)} {size labels : Int} {i : Nat} (hi : i < l.length) (h : cfgAt l size labels i = false) : cfgs l size labels = false := by
  rw [Bool.eq_false_iff]
  intro hc
  rw [cfgs_iff.1 hc i hi] at h
  cases h
theorem cfgs_strict {l : List (List Int)} {size labels : Int} (h : cfgs l size labels = true) : Strict l := by
  apply strict_of_adj
  intro i x y hx hy
  have h1 := (List.getElem?_eq_some_iff.1 hy).1
  have h2 := cfgs_iff.1 h (i + 1) h1
  unfold cfgAt at h2
  simp only [Bool.and_eq_true, Bool.or_eq_true, Nat.add_sub_cancel, List.getD_eq_getElem?_getD, hx, hy, Option.getD_some, decide_eq_true_eq] at h2
  rcases h2.2 with h3 | h3
  · simp at h3
  · exact h3
theorem cfgs_row {l : List (List Int)} {size labels : Int} (h : cfgs l size labels = true) {i : Nat} {c : List Int} (hc : l[i]? = some c) : rowB size labels c = true := by
  have h1 := (List.getElem?_eq_some_iff.1 hc).1
  have h2 := cfgs_iff.1 h i h1
  unfold cfgAt at h2
  simp only [Bool.and_eq_true, List.getD_eq_getElem?_getD, hc, Option.getD_some] at h2
  exact h2.1
def prOk (p : Prob) : Bool := inB 1 8 p.labels && (inB 1 4 p.degree && (cfgs p.nodes p.degree p.labels && cfgs p.edges 2 p.labels))
/-- a sorted list has all labels of another -/
def inclB (c : List Int) : List Int → Bool
  | [] => true
  | a :: l => match c.dropWhile (fun x => decide (x < a)) with
    | [] => false
    | x :: r => (x == a) && inclB r l
theorem incl_skip {c l : List Int} {k : Nat} {x a : Int} (hx : c[k]? = some x) (h : x < a) : inclB (c.drop k) (a :: l) = inclB (c.drop (k + 1)) (a :: l) := by
  obtain ⟨h1, h2⟩ := List.getElem?_eq_some_iff.1 hx
  rw [List.drop_eq_getElem_cons h1, h2]
  simp [inclB, h]
theorem incl_hit {c l : List Int} {k : Nat} {a : Int} (hx : c[k]? = some a) : inclB (c.drop k) (a :: l) = inclB (c.drop (k + 1)) l := by
  obtain ⟨h1, h2⟩ := List.getElem?_eq_some_iff.1 hx
  rw [List.drop_eq_getElem_cons h1, h2]
  simp [inclB]
theorem incl_end {c l : List Int} {k : Nat} {a : Int} (h : c.length ≤ k) : inclB (c.drop k) (a :: l) = false := by
  rw [List.drop_eq_nil_iff.2 h]
  simp [inclB]
theorem incl_miss {c l : List Int} {k : Nat} {x a : Int} (hx : c[k]? = some x) (h : ¬ x < a) (hn : x ≠ a) : inclB (c.drop k) (a :: l) = false := by
  obtain ⟨h1, h2⟩ := List.getElem?_eq_some_iff.1 hx
  rw [List.drop_eq_getElem_cons h1, h2]
  simp [inclB, h, hn]
def known (row : List Int) : List Int := row.filter fun a => decide (0 ≤ a)
def nodeB (p : Prob) (row : List Int) : Bool := !((row.length : Int) == p.degree) || p.nodes.any fun c => inclB c (sortI (known row))
def edgeB (p : Prob) (a b : Int) : Bool := p.edges.contains [min a b, max a b]
theorem mem_sortI {xs : List Int} {a : Int} : a ∈ sortI xs ↔ a ∈ xs := by unfold sortI; exact List.mem_mergeSort
theorem sortI_sorted (xs : List Int) : (sortI xs).Pairwise (· ≤ ·) := by
  have := List.pairwise_mergeSort (le := fun x y : Int => decide (x ≤ y)) (by intro _ _ _; simp; omega) (by intro _ _; simp; omega) xs
  exact this.imp (by simp)
theorem sortI_perm (xs : List Int) : (sortI xs).Perm xs := List.mergeSort_perm _ _
theorem sort_unique {xs ys : List Int} (h : xs.Perm ys) (h1 : xs.Pairwise (· ≤ ·)) (h2 : ys.Pairwise (· ≤ ·)) : xs = ys :=
  List.Perm.eq_of_pairwise (fun _ _ _ _ h1 h2 => Int.le_antisymm h1 h2) h1 h2 h
theorem sort_filter (xs : List Int) (q : Int → Bool) : sortI (xs.filter q) = (sortI xs).filter q :=
  sort_unique ((sortI_perm _).trans ((sortI_perm xs).symm.filter q)) (sortI_sorted _) ((sortI_sorted xs).filter q)
theorem sort_pair (a b : Int) : sortI [a, b] = [min a b, max a b] := by
  apply sort_unique
  · refine (sortI_perm _).trans ?_
    rcases Int.le_total a b with h | h
    · rw [Int.min_eq_left h, Int.max_eq_right h]
    · rw [Int.min_eq_right h, Int.max_eq_left h]
      exact List.Perm.swap _ _ _
  · exact sortI_sorted _
  · simp; omega
def cellB (l : List (List Int)) (e : Int × Int) : Int := (l.getD e.1.toNat []).getD e.2.toNat 0
def portB (p : Prob) (ends : List (List (Int × Int))) (l : List (List Int)) (e : Int × Int) : Bool :=
  let f := (ends.getD e.1.toNat []).getD e.2.toNat (0, 0)
  decide (cellB l e < 0) || (decide (cellB l f < 0) || edgeB p (cellB l e) (cellB l f))
def holdsRow (p : Prob) (ends : List (List (Int × Int))) (l : List (List Int)) (v : Nat) : Bool :=
  nodeB p (l.getD v []) && (List.range (l.getD v []).length).all fun i => portB p ends l ((v : Int), (i : Int))
def holdsB (p : Prob) (ends : List (List (Int × Int))) (l : List (List Int)) : Bool := (List.range l.length).all (holdsRow p ends l)
def freeR (v : Nat) (row : List Int) : List (Int × Int) := ((List.range row.length).filter fun i => decide (row.getD i 0 < 0)).map fun i => ((v : Int), ((i : Nat) : Int))
def freeU (l : List (List Int)) (k : Nat) : List (Int × Int) := (List.range k).flatMap fun v => freeR v (l.getD v [])
def freeP (l : List (List Int)) : List (Int × Int) := freeU l l.length
def freeRU (v : Nat) (row : List Int) (k : Nat) : List (Int × Int) := ((List.range k).filter fun i => decide (row.getD i 0 < 0)).map fun i => ((v : Int), ((i : Nat) : Int))
theorem freeU_succ (l : List (List Int)) (k : Nat) : freeU l (k + 1) = freeU l k ++ freeR k (l.getD k []) := by simp [freeU, List.range_succ]
theorem freeRU_succ (v : Nat) (row : List Int) (k : Nat) : freeRU v row (k + 1) = freeRU v row k ++ (if row.getD k 0 < 0 then [((v : Int), (k : Int))] else []) := by
  unfold freeRU
  rw [List.range_succ, List.filter_append, List.map_append]
  congr 1
  by_cases h : row.getD k 0 < 0
  · rw [if_pos h, List.filter_cons_of_pos (by simpa using h)]; rfl
  · rw [if_neg h, List.filter_cons_of_neg (by simpa using h)]; rfl
def putB (l : List (List Int)) (e : Int × Int) (x : Int) : List (List Int) := l.set e.1.toNat ((l.getD e.1.toNat []).set e.2.toNat x)
/-- the search: fuel, labeling, position, steps -/
abbrev SoR := Int × List (List Int) × Int × Int
def soGo (p : Prob) (ends : List (List (Int × Int))) (ports : List (Int × Int)) (most : Int) : Nat → List (List Int) → Int → Int → SoR
  | 0, l, pos, st => (0, l, pos, st)
  | f + 1, l, pos, st =>
    if pos < 0 then (2, l, pos, st)
    else if pos = ports.length then (1, l, pos, st)
    else
      let e := ports.getD pos.toNat (0, 0)
      if cellB l e = p.labels - 1 then soGo p ends ports most f (putB l e (-1)) (pos - 1) st
      else if st = most then (3, l, pos, st)
      else
        let l' := putB l e (cellB l e + 1)
        if nodeB p (l'.getD e.1.toNat []) && portB p ends l' e then soGo p ends ports most f l' (pos + 1) (st + 1)
        else soGo p ends ports most f l' pos (st + 1)
/-- the search that asks at each solution whether it goes on -/
def soAll {σ : Type} (nx : σ → List (List Int) → Bool × σ) (p : Prob) (ends : List (List (Int × Int))) (ports : List (Int × Int)) (most : Int) : Nat → σ → List (List Int) → Int → Int → σ × SoR
  | 0, s, l, pos, st => (s, 0, l, pos, st)
  | f + 1, s, l, pos, st =>
    if pos < 0 then (s, 2, l, pos, st)
    else if pos = ports.length then
      if (nx s l).1 then soAll nx p ends ports most f (nx s l).2 l (pos - 1) st else ((nx s l).2, 1, l, pos, st)
    else
      let e := ports.getD pos.toNat (0, 0)
      if cellB l e = p.labels - 1 then soAll nx p ends ports most f s (putB l e (-1)) (pos - 1) st
      else if st = most then (s, 3, l, pos, st)
      else
        let l' := putB l e (cellB l e + 1)
        if nodeB p (l'.getD e.1.toNat []) && portB p ends l' e then soAll nx p ends ports most f s l' (pos + 1) (st + 1)
        else soAll nx p ends ports most f s l' pos (st + 1)
/-- how long it goes on at most -/
def soMeas (most pos st : Int) : Nat := (2 * (most - st) + pos + 2).toNat
theorem soGo_fuel (p : Prob) (ends : List (List (Int × Int))) (ports : List (Int × Int)) (most : Int) (f g : Nat) (l : List (List Int)) (pos st : Int) (hst : st ≤ most) (hp : -1 ≤ pos) (hf : soMeas most pos st ≤ f) (hg : soMeas most pos st ≤ g) : soGo p ends ports most f l pos st = soGo p ends ports most g l pos st := by
  unfold soMeas at hf hg
  induction f generalizing g l pos st with
  | zero => omega
  | succ f ih =>
    cases g with
    | zero => omega
    | succ g =>
      simp only [soGo]
      by_cases h1 : pos < 0
      · rw [if_pos h1, if_pos h1]
      · rw [if_neg h1, if_neg h1]
        by_cases h2 : pos = ports.length
        · rw [if_pos h2, if_pos h2]
        · rw [if_neg h2, if_neg h2]
          by_cases h3 : cellB l (ports.getD pos.toNat (0, 0)) = p.labels - 1
          · rw [if_pos h3, if_pos h3]
            exact ih g _ _ _ hst (by omega) (by omega) (by omega)
          · rw [if_neg h3, if_neg h3]
            by_cases h4 : st = most
            · rw [if_pos h4, if_pos h4]
            · rw [if_neg h4, if_neg h4, ih g _ (pos + 1) (st + 1) (by omega) (by omega) (by omega) (by omega), ih g _ pos (st + 1) (by omega) (by omega) (by omega) (by omega)]
theorem soAll_fuel {σ : Type} (nx : σ → List (List Int) → Bool × σ) (p : Prob) (ends : List (List (Int × Int))) (ports : List (Int × Int)) (most : Int) (f g : Nat) (s : σ) (l : List (List Int)) (pos st : Int) (hst : st ≤ most) (hp : -1 ≤ pos) (hf : soMeas most pos st ≤ f) (hg : soMeas most pos st ≤ g) : soAll nx p ends ports most f s l pos st = soAll nx p ends ports most g s l pos st := by
  unfold soMeas at hf hg
  induction f generalizing g s l pos st with
  | zero => omega
  | succ f ih =>
    cases g with
    | zero => omega
    | succ g =>
      simp only [soAll]
      by_cases h1 : pos < 0
      · rw [if_pos h1, if_pos h1]
      · rw [if_neg h1, if_neg h1]
        by_cases h2 : pos = ports.length
        · rw [if_pos h2, if_pos h2, ih g _ _ (pos - 1) st hst (by omega) (by omega) (by omega)]
        · rw [if_neg h2, if_neg h2]
          by_cases h3 : cellB l (ports.getD pos.toNat (0, 0)) = p.labels - 1
          · rw [if_pos h3, if_pos h3]
            exact ih g _ _ _ _ hst (by omega) (by omega) (by omega)
          · rw [if_neg h3, if_neg h3]
            by_cases h4 : st = most
            · rw [if_pos h4, if_pos h4]
            · rw [if_neg h4, if_neg h4, ih g _ _ (pos + 1) (st + 1) (by omega) (by omega) (by omega) (by omega), ih g _ _ pos (st + 1) (by omega) (by omega) (by omega) (by omega)]
/-- one step, the fuel as it was -/
theorem soGo_step (p : Prob) (ends : List (List (Int × Int))) (ports : List (Int × Int)) (most : Int) (f : Nat) (l : List (List Int)) (pos st : Int) (hst : st ≤ most) (hp : -1 ≤ pos) (hf : soMeas most pos st ≤ f) :
    soGo p ends ports most f l pos st = (if pos < 0 then (2, l, pos, st)
    else if pos = ports.length then (1, l, pos, st)
    else
      let e := ports.getD pos.toNat (0, 0)
      if cellB l e = p.labels - 1 then soGo p ends ports most f (putB l e (-1)) (pos - 1) st
      else if st = most then (3, l, pos, st)
      else
        let l' := putB l e (cellB l e + 1)
        if nodeB p (l'.getD e.1.toNat []) && portB p ends l' e then soGo p ends ports most f l' (pos + 1) (st + 1)
        else soGo p ends ports most f l' pos (st + 1)) := by
  rw [soGo_fuel p ends ports most f (f + 1) l pos st hst hp hf (by omega)]
  unfold soMeas at hf
  simp only [soGo]
theorem soAll_step {σ : Type} (nx : σ → List (List Int) → Bool × σ) (p : Prob) (ends : List (List (Int × Int))) (ports : List (Int × Int)) (most : Int) (f : Nat) (s : σ) (l : List (List Int)) (pos st : Int) (hst : st ≤ most) (hp : -1 ≤ pos) (hf : soMeas most pos st ≤ f) :
    soAll nx p ends ports most f s l pos st = (if pos < 0 then (s, 2, l, pos, st)
    else if pos = ports.length then
      if (nx s l).1 then soAll nx p ends ports most f (nx s l).2 l (pos - 1) st else ((nx s l).2, 1, l, pos, st)
    else
      let e := ports.getD pos.toNat (0, 0)
      if cellB l e = p.labels - 1 then soAll nx p ends ports most f s (putB l e (-1)) (pos - 1) st
      else if st = most then (s, 3, l, pos, st)
      else
        let l' := putB l e (cellB l e + 1)
        if nodeB p (l'.getD e.1.toNat []) && portB p ends l' e then soAll nx p ends ports most f s l' (pos + 1) (st + 1)
        else soAll nx p ends ports most f s l' pos (st + 1)) := by
  rw [soAll_fuel nx p ends ports most f (f + 1) s l pos st hst hp hf (by omega)]
  simp only [soAll]
/-- where a search ends -/
theorem soGo_end (p : Prob) (ends : List (List (Int × Int))) (ports : List (Int × Int)) (most : Int) (f : Nat) (l : List (List Int)) (pos st : Int) (hst : st ≤ most) (hp : -1 ≤ pos) (hp2 : pos ≤ ports.length) (hf : soMeas most pos st ≤ f) :
    let r := soGo p ends ports most f l pos st
    r.2.2.2 ≤ most ∧ -1 ≤ r.2.2.1 ∧ r.2.2.1 ≤ ports.length ∧ st ≤ r.2.2.2 ∧ soMeas most r.2.2.1 r.2.2.2 ≤ soMeas most pos st ∧ (r.1 = 1 → r.2.2.1 = ports.length) ∧ (r.1 = 1 ∨ r.1 = 2 ∨ r.1 = 3) := by
  unfold soMeas at hf ⊢
  induction f generalizing l pos st with
  | zero => omega
  | succ f ih =>
    simp only [soGo]
    by_cases h1 : pos < 0
    · rw [if_pos h1]; simp; omega
    · rw [if_neg h1]
      by_cases h2 : pos = ports.length
      · rw [if_pos h2]; simp; omega
      · rw [if_neg h2]
        by_cases h3 : cellB l (ports.getD pos.toNat (0, 0)) = p.labels - 1
        · rw [if_pos h3]
          obtain ⟨a1, a2, a3, a4, a5, a6, a7⟩ := ih (putB l (ports.getD pos.toNat (0, 0)) (-1)) (pos - 1) st hst (by omega) (by omega) (by omega)
          exact ⟨a1, a2, a3, a4, by omega, a6, a7⟩
        · rw [if_neg h3]
          by_cases h4 : st = most
          · rw [if_pos h4]; simp; omega
          · rw [if_neg h4]
            by_cases h5 : (nodeB p ((putB l (ports.getD pos.toNat (0, 0)) (cellB l (ports.getD pos.toNat (0, 0)) + 1)).getD (ports.getD pos.toNat (0, 0)).1.toNat []) && portB p ends (putB l (ports.getD pos.toNat (0, 0)) (cellB l (ports.getD pos.toNat (0, 0)) + 1)) (ports.getD pos.toNat (0, 0))) = true
            · rw [if_pos h5]
              obtain ⟨a1, a2, a3, a4, a5, a6, a7⟩ := ih (putB l (ports.getD pos.toNat (0, 0)) (cellB l (ports.getD pos.toNat (0, 0)) + 1)) (pos + 1) (st + 1) (by omega) (by omega) (by omega) (by omega)
              exact ⟨a1, a2, a3, by omega, by omega, a6, a7⟩
            · rw [if_neg h5]
              obtain ⟨a1, a2, a3, a4, a5, a6, a7⟩ := ih (putB l (ports.getD pos.toNat (0, 0)) (cellB l (ports.getD pos.toNat (0, 0)) + 1)) pos (st + 1) (by omega) (by omega) (by omega) (by omega)
              exact ⟨a1, a2, a3, by omega, by omega, a6, a7⟩
/-- the search that asks, in terms of the one that does not -/
theorem soAll_go {σ : Type} (nx : σ → List (List Int) → Bool × σ) (p : Prob) (ends : List (List (Int × Int))) (ports : List (Int × Int)) (most : Int) (f g : Nat) (s : σ) (l : List (List Int)) (pos st : Int)
    (hst : st ≤ most) (hp : -1 ≤ pos) (hp2 : pos ≤ ports.length) (hf : soMeas most pos st ≤ f) (hg : soMeas most pos st ≤ g) :
    soAll nx p ends ports most f s l pos st = (let r := soGo p ends ports most f l pos st
      if r.1 = 1 then (if (nx s r.2.1).1 then soAll nx p ends ports most g (nx s r.2.1).2 r.2.1 (r.2.2.1 - 1) r.2.2.2 else ((nx s r.2.1).2, r)) else (s, r)) := by
  unfold soMeas at hf hg
  induction f generalizing l pos st with
  | zero => omega
  | succ f ih =>
    simp only [soGo, soAll]
    by_cases h1 : pos < 0
    · simp [h1]
    · rw [if_neg h1, if_neg h1]
      by_cases h2 : pos = ports.length
      · rw [if_pos h2, if_pos h2]
        simp only [if_true]
        rw [soAll_fuel nx p ends ports most f g _ l (pos - 1) st hst (by omega) (by unfold soMeas; omega) (by unfold soMeas; omega)]
      · rw [if_neg h2, if_neg h2]
        by_cases h3 : cellB l (ports.getD pos.toNat (0, 0)) = p.labels - 1
        · rw [if_pos h3, if_pos h3]
          exact ih _ _ _ hst (by omega) (by omega) (by omega) (by omega)
        · rw [if_neg h3, if_neg h3]
          by_cases h4 : st = most
          · rw [if_pos h4, if_pos h4]; simp
          · rw [if_neg h4, if_neg h4]
            by_cases h5 : (nodeB p ((putB l (ports.getD pos.toNat (0, 0)) (cellB l (ports.getD pos.toNat (0, 0)) + 1)).getD (ports.getD pos.toNat (0, 0)).1.toNat []) && portB p ends (putB l (ports.getD pos.toNat (0, 0)) (cellB l (ports.getD pos.toNat (0, 0)) + 1)) (ports.getD pos.toNat (0, 0))) = true
            · rw [if_pos h5, if_pos h5]
              exact ih _ (pos + 1) (st + 1) (by omega) (by omega) (by omega) (by omega) (by omega)
            · rw [if_neg h5, if_neg h5]
              exact ih _ pos (st + 1) (by omega) (by omega) (by omega) (by omega) (by omega)
end Go.Proofs.YtomnaabadohecaaGreat
