/- Parts of the proof: walks of functions and plain laws. -/
import Derived.Test.YtgmdpppljkmabaaGreatP0
import Derived.Test.YtgmdpppljkmabaaGreatP5
import Derived.Lib.SliceRun
import Derived.Test.YtgmdpppljkmabaaGreatP3
import Derived.Test.YtgmdpppljkmabaaGreatP4
import Derived.WalkSpells
namespace Go.Proofs.YtgmdpppljkmabaaGreat
open Go.RowKit
theorem Own.since {w w' : World} {base : Nat} {v : Value} {xs : List Int} (h : Own w base v xs) (hs : Since w w') : Own w' base v xs := h.keep hs
theorem app_int_s {w w0 : World} {ops : Array Oper} {rest : List Oper} {o : Oper} {a : Act} {Q : Exit → Act → World → Prop} (hgd : o.guard = none) (s x : Operand)
  (ho : o.op = .call { callee := .builtin .append, args := #[s, x], argTypes := #[25, 25] }) {v : Value} {xs : List Int} (hs : a.eval s = v) (h : Own w w0.heap.size v xs) (b : Nat) (y : Int)
  (hx : a.eval x = .slice (some ⟨b, 0, none⟩) 1 1) (hc : w.cell? ⟨b, 0, none⟩ = some (.int .i64 y)) (hl : xs.length + 1 ≤ 17592186044416) (hsn : Since w0 w)
  (k : ∀ g cap w', Own w' w0.heap.size (.slice (some ⟨g, 0, none⟩) (xs.length + 1) cap) (xs ++ [y]) → Since w0 w' → wpList Tryz.prog ops Q rest (a.put o.dst (.slice (some ⟨g, 0, none⟩) (xs.length + 1) cap)) w') : wpList Tryz.prog ops Q (o :: rest) a w := by
 refine app_int hgd s x ho hs h b y hx hc hl hsn.size ?_
 intro g cap w' h1 h2 h3 h4
 exact k g cap w' h1 (Below.grown hsn h2 hsn.size (fun j hj => (World.ownsRow.lt h j hj).1))
theorem row_at {w : World} {v : Value} {ess : List (List (Int × Int))} {k : Nat} {es : List (Int × Int)} (h : EndSS w v ess) (hes : ess[k]? = some es) :
  ∃ (b off c : Nat) (u : Value), v = .slice (some ⟨b, off, none⟩) ess.length c ∧ k < ess.length ∧ w.cell? ⟨b, off + k, none⟩ = some u ∧ EndS w u es := by
 obtain ⟨A, c, rfl, hlc, hm, hA⟩ := h
 obtain ⟨b, off, u, rfl, hc, hrow⟩ := hA k es hes
 exact ⟨b, off, c, u, rfl, lt_of_get hes, hc, hrow⟩
set_option maxHeartbeats 4000000 in
theorem neNear_any (ve vi vn : Value) (n : Net) (k : Nat) (es : List (Int × Int)) (w : World) (h : NetIn w ve vi vn n) (hes : n.ends[k]? = some es) (hle : es.length ≤ 1000000) :
  Calls Tryz.prog 186 #[.agg #[ve, vi, vn], .int .i64 k] w fun e w' => ∃ u, e = .returned u ∧ Own w' w.heap.size u (es.map (·.1)) ∧ Below w.heap.size w w' := by
 obtain ⟨w0, hw0⟩ : ∃ w0, w0 = (w).alloc (.cells #[ve, vi, vn] 27) := ⟨_, rfl⟩
 have hb0 : Below w.heap.size w w0 := by rw [hw0]; exact ((Below.refl _ _).alloc (by simp) _)
 have H := Lib.hid (h.keep hb0)
 obtain ⟨h1, h2, h3⟩ := h.keep hb0
 obtain ⟨A, c, rfl, hlc, hm, hA⟩ := h1
 obtain ⟨A2, c2, rfl, _, hm2, _⟩ := h2
 obtain ⟨A3, c3, rfl, _, hm3, _⟩ := h3
 unfold maxLen at hm hm2 hm3
 have p00 : ∀ W, Since w0 W → W.cell? ⟨w.heap.size, 0, none⟩ = some (.slice A n.ends.length c) := have_cell (by rw [hw0]; simp)
 have p01 : ∀ W, Since w0 W → W.cell? ⟨w.heap.size, 1, none⟩ = some (.slice A2 n.ids.length c2) := have_cell (by rw [hw0]; simp)
 have p02 : ∀ W, Since w0 W → W.cell? ⟨w.heap.size, 2, none⟩ = some (.slice A3 n.inputs.length c3) := have_cell (by rw [hw0]; simp)
 have Hb0 := Lib.hid hb0
 have Hw0 := Lib.hid hw0
 have HA := Lib.hid hA
 clear hA h
 clear hb0 hw0
 obtain ⟨b, off, c', u, hA, hk, hc1, hrow⟩ := row_at H.out.es hes
 cases hA
 obtain ⟨A1, z1, rfl, hz1, hz2, hA1⟩ := hrow
 unfold maxLen at hz2
 have r1 := have_cell hc1
 have HA1 := Lib.hid hA1
 clear hc1 hA1 hes
 go_enter Tryz.func186, Tryz.ntmps186
 go_upto_region 1 with (fail)
 rw [← Hw0.out]
 have hs0 : Since w0 w0 := since_refl _
 go_wp2
 go_loopw [5, 14] (fun u i wr => ∃ j : Nat, j ≤ es.length ∧ i = .int .i64 j ∧ Own wr w0.heap.size u ((es.take j).map (·.1)) ∧ Since w0 wr) (fun _ i _ => es.length - (intOf i).toNat)
 case atStart => exact ⟨0, Nat.zero_le _, rfl, by simpa using own_nil w0 w0.heap.size, hs0⟩
 case round =>
  obtain ⟨j, hj, rfl, ho, hs⟩ := hrel
  have Ho := Lib.hid ho
  clear hs0 ho
  by_cases hlt : j < es.length
  ·obtain ⟨⟨x1, x2⟩, hx⟩ := getx es j hlt
   obtain ⟨b1, off1, rfl, hd1, hd2⟩ := HA1.out j _ hx
   have t1 := have_cell hd1
   have t2 := have_cell hd2
   have Hx := Lib.hid hx
   clear hx hd1 hd2
   have hlen : ((es.take j).map (·.1)).length + 1 ≤ 17592186044416 := by simp; omega
   have Hlen := Lib.hid hlen
   clear hlen
   go_wp2_with (at_builtin; refine app_int_s rfl _ _ rfl rfl (Ho.out.since (since_alloc _ (since_alloc _ (since_refl _)))) (wr.heap.size + 1) x1 rfl (by simp [go_sem]) Hlen.out (since_alloc _ (since_alloc _ hs)) ?_; intro g cc w2 ho2 hs2)
   have E2 : Hid (((es.take j).map (·.1)).length = j) := by show _ = _; simp; omega
   have e1 : (es.take j).map (·.1) ++ [x1] = (es.take (j + 1)).map (·.1) := by rw [take_snoc Hx.out]; simp
   rw [e1] at ho2
   have Ho2 := Lib.hid ho2
   have Hs2 := Lib.hid hs2
   clear ho2 hs2 hs e1
   go_wp2
   go_roundw
   case rel => exact ⟨j + 1, by omega, by go_num, by first | exact Ho2.out | (have := Ho2.out; rw [E2.out] at this; exact this), Hs2.out⟩
   case measure => simp [intOf]; omega
  ·obtain rfl : j = es.length := by omega
   go_wp2
   go_ret
   exact ⟨_, rfl, by have := Ho.out; rw [List.take_length] at this; exact this.mono Hb0.out.size, Since.after Hb0.out hs⟩
def nearB (ls : List Int) (es : List (Int × Int)) : List Int := es.map fun e => ls.getD e.1.toNat 0
theorem seen_mem {ls : List Int} {es : List (Int × Int)} {j : Nat} {x : Int × Int} {l y : Int} (hx : es[j]? = some x) (hg : ls.getD x.1.toNat 0 = y) : y ∈ l :: nearB ls es := List.mem_cons_of_mem _ (List.mem_map.2 ⟨x, List.mem_of_getElem? hx, hg⟩)
theorem seen_in {ls : List Int} {es : List (Int × Int)} {k : Nat} {l y : Int} (hk : ls[k]? = some l) (hin : ∀ e ∈ es, 0 ≤ e.1 ∧ e.1 < ls.length) (h : y ∈ l :: nearB ls es) : y ∈ ls := by
 rcases List.mem_cons.1 h with rfl | h
 ·exact List.mem_of_getElem? hk
 ·obtain ⟨e, he, rfl⟩ := List.mem_map.1 h
  obtain ⟨h1, h2⟩ := hin e he
  have : e.1.toNat < ls.length := by omega
  rw [List.getD_eq_getElem?_getD, List.getElem?_eq_getElem this]
  exact List.getElem_mem this
set_option maxHeartbeats 4000000 in
theorem near_any (ve vi vn vl : Value) (n : Net) (ls : List Int) (k : Nat) (es : List (Int × Int)) (w : World) (h : NetIn w ve vi vn n) (hl : IntS w vl ls) (hes : n.ends[k]? = some es) (hle : es.length ≤ 1000000) (hin : ∀ e ∈ es, 0 ≤ e.1 ∧ e.1 < ls.length) :
  Calls Tryz.prog 146 #[.agg #[ve, vi, vn], .int .i64 k, vl] w fun e w' => ∃ u, e = .returned u ∧ Own w' w.heap.size u (nearB ls es) ∧ Below w.heap.size w w' := by
 obtain ⟨w0, hw0⟩ : ∃ w0, w0 = (w).alloc (.cells #[ve, vi, vn] 27) := ⟨_, rfl⟩
 have hb0 : Below w.heap.size w w0 := by rw [hw0]; exact ((Below.refl _ _).alloc (by simp) _)
 have H := Lib.hid (h.keep hb0)
 obtain ⟨h1, h2, h3⟩ := h.keep hb0
 obtain ⟨A, c, rfl, hlc, hm, hA⟩ := h1
 obtain ⟨A2, c2, rfl, _, hm2, _⟩ := h2
 obtain ⟨A3, c3, rfl, _, hm3, _⟩ := h3
 unfold maxLen at hm hm2 hm3
 have p00 : ∀ W, Since w0 W → W.cell? ⟨w.heap.size, 0, none⟩ = some (.slice A n.ends.length c) := have_cell (by rw [hw0]; simp)
 have p01 : ∀ W, Since w0 W → W.cell? ⟨w.heap.size, 1, none⟩ = some (.slice A2 n.ids.length c2) := have_cell (by rw [hw0]; simp)
 have p02 : ∀ W, Since w0 W → W.cell? ⟨w.heap.size, 2, none⟩ = some (.slice A3 n.inputs.length c3) := have_cell (by rw [hw0]; simp)
 have Hb0 := Lib.hid hb0
 have Hw0 := Lib.hid hw0
 have HA := Lib.hid hA
 clear hA h
 clear hb0 hw0
 obtain ⟨b, off, c', u, hA, hk, hc1, hrow⟩ := row_at H.out.es hes
 cases hA
 obtain ⟨A1, z1, rfl, hz1, hz2, hA1⟩ := hrow
 unfold maxLen at hz2
 have r1 := have_cell hc1
 have HA1 := Lib.hid hA1
 have HL := Lib.hid (hl.keep Hb0.out)
 have Hin := Lib.hid hin
 obtain ⟨AL, cL, rfl, hlL, hmL, _⟩ := hl
 unfold maxLen at hmL
 clear hc1 hA1 hes hin
 go_enter Tryz.func146, Tryz.ntmps146
 go_upto_region 1 with (fail)
 rw [← Hw0.out]
 have hs0 : Since w0 w0 := since_refl _
 go_wp2
 go_loopw [7, 16] (fun u i wr => ∃ j : Nat, j ≤ es.length ∧ i = .int .i64 j ∧ Own wr w0.heap.size u (nearB ls (es.take j)) ∧ Since w0 wr) (fun _ i _ => es.length - (intOf i).toNat)
 case atStart => exact ⟨0, Nat.zero_le _, rfl, by simpa [nearB] using own_nil w0 w0.heap.size, hs0⟩
 case round =>
  obtain ⟨j, hj, rfl, ho, hs⟩ := hrel
  have Ho := Lib.hid ho
  clear hs0 ho
  by_cases hlt : j < es.length
  ·obtain ⟨⟨x1, x2⟩, hx⟩ := getx es j hlt
   obtain ⟨b1, off1, rfl, hd1, hd2⟩ := HA1.out j _ hx
   obtain ⟨i1, i2⟩ := Hin.out _ (List.mem_of_getElem? hx)
   simp only at i1 i2
   obtain ⟨m1, bl, ol, cl, y, rfl, hv, hm1, hg0, hg1, hd3⟩ := lab_at HL.out i1 i2
   cases hv
   have t1 := have_cell hd1
   have t2 := have_cell hd2
   have t3 := have_cell hd3
   have Hx := Lib.hid hx
   have Hg := Lib.hid hg1
   clear hx hd1 hd2 hd3 hg0 hg1
   have hlen : (nearB ls (es.take j)).length + 1 ≤ 17592186044416 := by simp [nearB]; omega
   have Hlen := Lib.hid hlen
   have hsz := (Since.below hs).size
   clear hlen
   go_wp2_with (at_builtin; refine app_int_s rfl _ _ rfl rfl (Ho.out.since (since_alloc _ (since_alloc _ (since_refl _)))) (wr.heap.size + 1) y rfl (by simp [go_sem]) Hlen.out (since_alloc _ (since_alloc _ hs)) ?_; intro g cc w2 ho2 hs2)
   have E2 : Hid ((nearB ls (es.take j)).length = j) := by show _ = _; simp [nearB]; omega
   have e1 : nearB ls (es.take j) ++ [y] = nearB ls (es.take (j + 1)) := by rw [take_snoc Hx.out]; simp only [nearB, List.map_append, List.map_cons, List.map_nil, Hg.out]
   rw [e1] at ho2
   have Ho2 := Lib.hid ho2
   have Hs2 := Lib.hid hs2
   clear ho2 hs2 hs e1
   go_wp2
   go_roundw
   case rel => exact ⟨j + 1, by omega, by go_num, by first | exact Ho2.out | (have := Ho2.out; rw [E2.out] at this; exact this), Hs2.out⟩
   case measure => simp [intOf]; omega
  ·obtain rfl : j = es.length := by omega
   go_wp2
   go_ret
   exact ⟨_, rfl, by have := Ho.out; rw [List.take_length] at this; exact this.mono Hb0.out.size, Since.after Hb0.out hs⟩
theorem oneIf_any (b : Bool) (w : World) : Calls Tryz.prog 90 #[.bool b] w fun e w' => e = .returned (.int .i64 (if b then 1 else 0)) ∧ w = w' := by
 cases b
 ·go_enter Tryz.func90, Tryz.ntmps90
  go_wp2
  go_ret
  exact ⟨rfl, rfl⟩
 ·go_enter Tryz.func90, Tryz.ntmps90
  go_wp2
  go_ret
  exact ⟨rfl, rfl⟩
end Go.Proofs.YtgmdpppljkmabaaGreat
namespace Go.Proofs.YtgmdpppljkmabaaGreat
open Go.RowKit
theorem Own.cut {w : World} {base g n c : Nat} {xs : List Int} (h : Own w base (.slice (some ⟨g, 0, none⟩) n c) xs) (i : Nat) (hi : i ≤ n) : Own w base (.slice (some ⟨g, 0, none⟩) i c) (xs.take i) := by
 obtain rfl := h.len
 unfold Own at *
 have hl : (xs.take i).length = i := by simp; omega
 rw [hl]
 rcases h.2 with ⟨h', _⟩ | ⟨g', cap, cur, h', hb, hg, hnc, hm, hcs, htake⟩
 ·simp at h'
 ·simp only [Value.slice.injEq, Option.some.injEq, Addr.mk.injEq, and_true, true_and] at h'
  obtain ⟨rfl, rfl, rfl⟩ := h'
  refine ⟨by simp; omega, .inr ⟨g, c, cur, rfl, hb, hg, by omega, hm, hcs, ?_⟩⟩
  rw [List.map_take, ← htake, List.take_take]
  congr 1
  simp; omega
theorem Own.clear {base g n c : Nat} (m : Nat) : ∀ {w : World} {xs : List Int} (o : Nat), Own w base (.slice (some ⟨g, 0, none⟩) n c) xs → ∃ ys, Own (w.setCells g o (List.replicate m (.int .i64 0))) base (.slice (some ⟨g, 0, none⟩) n c) ys ∧ ys.take o = xs.take o := by
 induction m with
 | zero => intro w xs o h; exact ⟨xs, h, rfl⟩
 | succ m ih =>
  intro w xs o h
  obtain ⟨ys, h1, h2⟩ := ih (o + 1) (h.set (k := o) 0)
  refine ⟨ys, h1, ?_⟩
  have := congrArg (List.take o) h2
  rw [List.take_take, List.take_take, Nat.min_eq_left (by omega)] at this
  rw [this]
  apply List.ext_getElem?
  intro j
  rw [List.getElem?_take, List.getElem?_take]
  split
  ·rw [List.getElem?_set_ne (by omega)]
  ·rfl
theorem since_cells {w0 : World} {g : Nat} (hg : w0.heap.size ≤ g) (vs : List Value) : ∀ (w : World) (o : Nat), Since w0 w → Since w0 (w.setCells g o vs) := by
 induction vs with
 | nil => intro w o h; exact h
 | cons v vs ih => intro w o h; exact ih _ _ (Below.setCell h hg v)
def keptB (p : Int → Bool) (xs : List Int) : List Int := xs.filter fun x => !p x
theorem kept_le (p : Int → Bool) (xs : List Int) : (keptB p xs).length ≤ xs.length := List.length_filter_le _ _
set_option maxRecDepth 100000 in
set_option maxHeartbeats 4000000 in
theorem deleteFunc_any (v : Value) (xs : List Int) (fid : FuncId) (caps : Array Value) (p : Int → Bool) (w w0 : World) (h : Own w w0.heap.size v xs) (hs : Since w0 w) (hl : xs.length ≤ 17592186044416) (henter : ∀ args w, (callFunc fid args).run Tryz.prog w = .ok (.enter fid args) w)
  (hp : PredOn w0 fid caps p xs) : Calls Tryz.prog 100 #[v, .func (.func fid) #[] caps] w fun e w' => ∃ u, e = .returned u ∧ Own w' w0.heap.size u (keptB p xs) ∧ Since w0 w' := by
 have Hp := Lib.hid hp
 have HI := Lib.hid h.ints
 have hI := indexFunc_any v xs fid caps p w h.ints henter (hp.keep hs)
 have HIF := Lib.hid hI
 have eg := henter
 cases hany : xs.any p
 ·have e1 : fidx p xs = -1 := fidx_none hany
  have e2 : keptB p xs = xs := by
   unfold keptB
   rw [List.filter_eq_self]
   intro x hx
   rw [List.any_eq_false] at hany
   simpa using hany x hx
  rw [e2]
  rw [e1] at HIF
  have Ho := Lib.hid h
  have Hs := Lib.hid hs
  clear h hs hI hany e1 e2 hp henter
  go_enter Tryz.func100, Tryz.ntmps100
  go_wp2_with fail
  refine HIF.out.mono ?_
  rintro e w1 ⟨rfl, hb1⟩
  have Hb1 := Lib.hid hb1
  clear hb1
  go_wp2
  go_ret
  exact ⟨_, rfl, Ho.out.keep Hb1.out, Since.trans Hs.out Hb1.out⟩
 ·rcases h.cases with ⟨rfl, rfl⟩ | ⟨g, c, rfl, hg1, hg2⟩
  ·simp at hany
  ·obtain ⟨k0, x0, hk0, hx0, hno⟩ : ∃ k x, xs[k]? = some x ∧ p x = true ∧ (xs.take k).any p = false := by
    cases hf : xs.findIdx? p with
    | none =>
     rw [List.findIdx?_eq_none_iff] at hf
     rw [List.any_eq_true] at hany
     obtain ⟨x, hx, hpx⟩ := hany
     rw [hf x hx] at hpx; cases hpx
    | some i =>
     rw [List.findIdx?_eq_some_iff_getElem] at hf
     obtain ⟨hi, hpi, hall⟩ := hf
     refine ⟨i, xs[i], List.getElem?_eq_getElem hi, hpi, ?_⟩
     rw [List.any_eq_false]
     intro x hx
     obtain ⟨j, hj, rfl⟩ := List.mem_take_iff_getElem.1 hx
     simpa using hall j (by omega)
   have e1 : fidx p xs = k0 := fidx_found hk0 hx0 hno
   have hk0l := lt_of_get hk0
   have e2 : keptB p (xs.take (k0 + 1)) = xs.take k0 := by
    rw [take_snoc hk0]
    unfold keptB
    rw [List.filter_append, List.filter_eq_self.2 (fun x hx => by rw [List.any_eq_false] at hno; simpa using hno x hx)]
    simp [hx0]
   rw [e1] at HIF
   have hm := h.bd
   unfold maxLen at hm
   have Ho := Lib.hid h
   have Hs := Lib.hid hs
   have E2 := Lib.hid e2
   have hne1 : ((k0 : Int) == -1) = false := beq_eq_false_iff_ne.2 (by omega)
   have hle : Hid (∀ j, (keptB p (xs.take j)).length ≤ j) := fun j => Nat.le_trans (kept_le _ _) (by simp; omega)
   clear h hs hI hany e1 e2 hp henter hk0 hx0 hno
   go_enter Tryz.func100, Tryz.ntmps100
   go_wp2_with fail
   refine HIF.out.mono ?_
   rintro e w1 ⟨rfl, hb1⟩
   have Hb1 := Lib.hid hb1
   clear hb1
   go_wp2
   go_loopw [5, 6] (fun i j wr => ∃ (jn : Nat) (ys : List Int), k0 < jn ∧ jn ≤ xs.length ∧ j = .int .i64 jn ∧ i = .int .i64 ((keptB p (xs.take jn)).length : Nat) ∧ (keptB p (xs.take jn)).length < jn ∧ Own wr w0.heap.size (.slice (some ⟨g, 0, none⟩) xs.length c) ys ∧ ys.length = xs.length ∧ ys.take (keptB p (xs.take jn)).length = keptB p (xs.take jn) ∧ ys.drop jn = xs.drop jn ∧ Since w0 wr) (fun _ j _ => xs.length - (intOf j).toNat)
   case atStart =>
    have e3 : (keptB p (xs.take (k0 + 1))).length = k0 := by rw [E2.out]; simp; omega
    exact ⟨k0 + 1, xs, by omega, by omega, by go_num, by rw [e3], by omega, Ho.out.keep Hb1.out, rfl, by rw [e3, E2.out], rfl, Since.trans Hs.out Hb1.out⟩
   case round =>
    obtain ⟨jn, ys, hj1, hj2, rfl, rfl, hij, ho, hyl, ht, hdr, hsr⟩ := hrel
    generalize hi : (keptB p (xs.take jn)).length = i at *
    have Ho2 := Lib.hid ho
    have Hyl := Lib.hid hyl
    have Ht := Lib.hid ht
    have Hdr := Lib.hid hdr
    have Hi := Lib.hid hi
    have Hsr := Lib.hid hsr
    by_cases hlt : jn < xs.length
    ·obtain ⟨x, hx⟩ := getx xs jn hlt
     have hyx : ys[jn]? = some x := by
      have := congrArg (fun l => l[0]?) hdr
      simp only [List.getElem?_drop, Nat.add_zero] at this
      rw [this]; exact hx
     have cx := ho.cell hyx
     obtain ⟨z, hz⟩ := getx ys i (by omega)
     have cz := ho.cell hz
     have fz := ho.free i
     have Hx := Lib.hid hx
     have hks : Hid (keptB p (xs.take (jn + 1)) = keptB p (xs.take jn) ++ if p x then [] else [x]) := by
      show _ = _
      rw [take_snoc hx]
      unfold keptB
      rw [List.filter_append]
      congr 1
      cases hpx : p x <;> simp [hpx]
     clear ho hyl ht hdr hi hsr hx hyx hz
     cases hpx : p x
     ·have Hpx := Lib.hid hpx
      clear hpx
      go_wp2_with fail
      refine (Hp.out x (List.mem_of_getElem? Hx.out) _ Hsr.out).mono ?_
      rintro e w2 ⟨rfl, hb2⟩
      rw [Hpx.out]
      have ho3 := Ho2.out.keep hb2
      have cz2 := bc hb2 cz
      have fz2 := ho3.free i
      have Ho3 := Lib.hid (ho3.set (k := i) x)
      have Hs3 := Lib.hid (Below.setCell (p := ⟨g, i, none⟩) (Since.trans Hsr.out hb2) hg1 (.int .i64 x))
      clear hb2 ho3 cz cx fz
      go_wp2
      go_roundw
      case rel =>
       refine ⟨jn + 1, ys.set i x, by omega, by omega, by go_num, ?_, ?_, Ho3.out, by simp [Hyl.out], ?_, ?_, Hs3.out⟩
       ·rw [hks.out, Hpx.out]; simp [Hi.out]
       ·rw [hks.out, Hpx.out]; simp [Hi.out]; omega
       ·rw [hks.out, Hpx.out]
        simp only [Bool.false_eq_true, if_false, List.length_append, List.length_cons, List.length_nil, Nat.zero_add, Hi.out]
        have hset : (ys.set i x)[i]? = some x := by rw [List.getElem?_set_self (by have := Hyl.out; omega)]
        rw [take_snoc hset]
        congr 1
        rw [← Ht.out]
        apply List.ext_getElem?
        intro q
        rw [List.getElem?_take, List.getElem?_take]
        split
        ·rw [List.getElem?_set_ne (by omega)]
        ·rfl
       ·have := congrArg (List.drop 1) Hdr.out
        rw [List.drop_drop, List.drop_drop] at this
        rw [← this]
        apply List.ext_getElem?
        intro q
        rw [List.getElem?_drop, List.getElem?_drop, List.getElem?_set_ne (by omega)]
      case measure => simp [intOf]; omega
     ·have Hpx := Lib.hid hpx
      clear hpx
      go_wp2_with fail
      refine (Hp.out x (List.mem_of_getElem? Hx.out) _ Hsr.out).mono ?_
      rintro e w2 ⟨rfl, hb2⟩
      rw [Hpx.out]
      have Ho3 := Lib.hid (Ho2.out.keep hb2)
      have Hs3 := Lib.hid (Since.trans Hsr.out hb2)
      clear hb2 cz cx fz
      go_wp2
      go_roundw
      case rel =>
       refine ⟨jn + 1, ys, by omega, by omega, by go_num, by rw [hks.out, Hpx.out]; simp [Hi.out], by rw [hks.out, Hpx.out]; simp [Hi.out]; omega, Ho3.out, Hyl.out, by rw [hks.out, Hpx.out]; simp [Hi.out, Ht.out], ?_, Hs3.out⟩
       have := congrArg (List.drop 1) Hdr.out
       rwa [List.drop_drop, List.drop_drop] at this
      case measure => simp [intOf]; omega
    ·obtain rfl : jn = xs.length := by omega
     have hcl : ∀ ty, (Builtin.clear_ #[25] ty #[.slice (some ⟨g, i, none⟩) (xs.length - i) (c - i)]).run Tryz.prog wr = .ok (.tuple #[]) (wr.setCells g i (List.replicate (xs.length - i) (.int .i64 0))) :=
      fun ty => Lib.run_clear_slice wr _ _ ty _ Tryz.underlying25 (fun w => by kernel_rfl) rfl rfl g i _ _ (by omega) (fun t ht' => by
       obtain ⟨z, hz⟩ := getx ys (i + t) (by omega)
       rw [ho.cell hz]; rfl) (fun t ht' => ho.free _)
     obtain ⟨zs, hz1, hz2⟩ := ho.clear (m := xs.length - i) (w := wr) i
     have Hz1 := Lib.hid (hz1.cut i (by omega))
     have Hz2 := Lib.hid hz2
     have Hs3 := Lib.hid (since_cells hg1 (List.replicate (xs.length - i) (.int .i64 0)) wr i hsr)
     have hnc : xs.length ≤ c ∧ c ≤ 9223372036854775807 := by
      rcases ho.2 with ⟨h', _⟩ | ⟨g', cap, cur, h', hb, hg, hnc, hm, hcs, htake⟩
      ·simp at h'
      ·simp only [Value.slice.injEq, Option.some.injEq, Addr.mk.injEq, and_true] at h'
       unfold maxLen at hm
       omega
     obtain ⟨hnc, hcm⟩ := hnc
     have hic : i ≤ c := by omega
     clear ho hyl ht hdr hi hsr hz1 hz2 hlt hj1 hj2 hl
     go_wp2
     go_ret
     refine ⟨_, rfl, ?_, Hs3.out⟩
     have h1 := Hz1.out
     rw [Hz2.out, Ht.out, List.take_length] at h1
     exact h1
end Go.Proofs.YtgmdpppljkmabaaGreat
namespace Go.Proofs.YtgmdpppljkmabaaGreat
open Go.RowKit
theorem Own.grown {w w' : World} {base : Nat} {v : Value} {xs : List Int} {row : Option Nat} (h : Own w base v xs) (hg : w.grownBy w' row) (hd : ∀ q, v.ownBlock = some q → row ≠ some q) : Own w' base v xs :=
 ownsRow_stable h fun q hq => hg.block q (World.ownsRow.lt h q (by simpa using hq)).2 (fun e => hd q (by simpa using hq) e.symm)
theorem app_ints {w : World} {ops : Array Oper} {rest : List Oper} {o : Oper} {a : Act} {Q : Exit → Act → World → Prop} (hgd : o.guard = none) (s x : Operand)
  (ho : o.op = .call { callee := .builtin .append, args := #[s, x], argTypes := #[25, 25] }) {base : Nat} {v : Value} {xs : List Int} (hs : a.eval s = v) (h : Own w base v xs) (b off c : Nat) (ys : List Int)
  (hx : a.eval x = .slice (some ⟨b, off, none⟩) ys.length c) (hc : ∀ j y, ys[j]? = some y → w.cell? ⟨b, off + j, none⟩ = some (.int .i64 y)) (hy : 0 < ys.length) (hl : xs.length + ys.length ≤ 17592186044416) (hbase : base ≤ w.heap.size)
  (k : ∀ g cap w', Own w' base (.slice (some ⟨g, 0, none⟩) (xs.length + ys.length) cap) (xs ++ ys) → w.grownBy w' v.ownBlock → (v.ownBlock = some g ∨ g = w.heap.size) → g < w'.heap.size → wpList Tryz.prog ops Q rest (a.put o.dst (.slice (some ⟨g, 0, none⟩) (xs.length + ys.length) cap)) w') : wpList Tryz.prog ops Q (o :: rest) a w := by
 obtain ⟨i0, hi, hz0, hz1, hz2⟩ := info_parts int_info
 refine wpList_append_lies w hgd s x 25 ho base 3 i0 (.int .i64 0) 1 8 Tryz.underlying25 hi hz0 hz1 hz2 rfl (by decide) v xs.length (xs.map (Value.int .i64)) hs h ⟨b, off, none⟩ ys.length c (ys.map (Value.int .i64)) hx (by simp)
  (by
   intro j u hj
   rw [List.getElem?_map] at hj
   cases hyj : ys[j]? with
   | none => rw [hyj] at hj; simp at hj
   | some y =>
    rw [hyj] at hj
    simp at hj
    subst hj
    rw [Go.Addr.add_lit]
    exact hc j y hyj) (by simp [Value.oneCell']) hy (by unfold maxLen; omega) (by omega) hbase w.heap.size rfl ?_
 intro g cap w' h1 h2 h3 h4
 refine k g cap w' ?_ h2 h3 h4
 unfold Own
 simpa using h1
set_option maxHeartbeats 2000000 in
theorem l1Own_any (v : Value) (xs : List Int) (w : World) (h : IntS w v xs) (h0' : 0 < xs.length) (hl : xs.length ≤ 17592186044416) :
  Calls Tryz.prog 179 #[v] w fun e w' => ∃ u, e = .returned u ∧ Own w' w.heap.size u xs ∧ Below w.heap.size w w' := by
 obtain ⟨A, c, rfl, hlc, hm, hA⟩ := h
 unfold maxLen at hm
 have ho := own_lit w [] (by simp [maxLen])
 simp only [List.map_nil, List.length_nil] at ho
 obtain ⟨y0, hy0⟩ := getx xs 0 (by omega)
 obtain ⟨b, off, rfl, _⟩ := hA 0 y0 hy0
 have HA : Hid (∀ j y, xs[j]? = some y → w.cell? ⟨b, off + j, none⟩ = some (.int .i64 y)) := fun j y hj => by
  obtain ⟨b', off', e, hc⟩ := hA j y hj
  cases e
  exact hc
 have Ho := Lib.hid ho
 clear hA hy0 ho
 go_enter Tryz.func179, Tryz.ntmps179
 go_wp2_with (at_builtin; refine app_ints rfl _ _ rfl rfl Ho.out b off c xs rfl (fun j y hj => bc (below_alloc _ _) (HA.out j y hj)) h0' (by simpa using hl) (by simp) ?_; intro g cc w2 ho2 hg2 _ _)
 simp only [List.length_nil, Nat.zero_add, List.nil_append] at ho2 ⊢
 have Ho2 := Lib.hid ho2
 have Hb2 : Hid (Below w.heap.size w w2) := (below_alloc w _).grown hg2 (by simp) (fun j hj => (World.ownsRow.lt Ho.out j hj).1)
 clear ho2 hg2
 go_wp2
 go_ret
 exact ⟨_, rfl, Ho2.out, Hb2.out⟩
end Go.Proofs.YtgmdpppljkmabaaGreat
namespace Go.Proofs.YtgmdpppljkmabaaGreat
open Go.RowKit
/-! what copies of networks need -/
def trunc (w : World) (k : Nat) : World := { w with heap := w.heap.extract 0 k }
theorem trunc_size (w : World) {k : Nat} (hk : k ≤ w.heap.size) : (trunc w k).heap.size = k := by simp [trunc]; omega
theorem trunc_since (w : World) {k : Nat} (hk : k ≤ w.heap.size) : Since (trunc w k) w := by
 refine ⟨rfl, rfl, rfl, by rw [trunc_size w hk]; exact hk, fun i hi => ?_⟩
 rw [trunc_size w hk] at hi
 simp [trunc, Array.getElem?_extract]
 omega
theorem since_trunc {w0 w : World} {k : Nat} (h : Since w0 w) (hk : k ≤ w.heap.size) (h0 : w0.heap.size ≤ k) : Since w0 (trunc w k) := by
 refine ⟨h.os, h.tape, h.output, by rw [trunc_size w hk]; exact h0, fun i hi => ?_⟩
 have := h.block i hi
 simp only [trunc, Array.getElem?_extract]
 rw [if_pos (by omega)]
 simpa using this
def BoxN (W : World) (b : Nat) (x y z : Value) : Prop := W.heap[b]? = some (.cells #[x, y, z] 27)
theorem BoxN.box {W : World} {b : Nat} {x y z : Value} (h : BoxN W b x y z) : Box3 W b x y z := ⟨_, h⟩
theorem BoxN.lt {W : World} {b : Nat} {x y z : Value} (h : BoxN W b x y z) : b < W.heap.size := (Array.getElem?_eq_some_iff.1 h).1
theorem BoxN.since {W W' : World} {b : Nat} {x y z : Value} (h : BoxN W b x y z) (hs : Since W W') : BoxN W' b x y z := (hs.block b h.lt).trans h
def NewB (W : World) (B : Nat) (u : Value) : Prop := ∃ b, u = .pointer (some ⟨b, 0, none⟩) ∧ B ≤ b ∧ BoxN W b (.slice none 0 0) (.slice none 0 0) (.slice none 0 0)
theorem NewB.keep {W W' : World} {B : Nat} {u : Value} (h : NewB W B u) (hs : Since W W') : NewB W' B u := by
 obtain ⟨b, h1, h2, h3⟩ := h
 exact ⟨b, h1, h2, h3.since hs⟩
theorem NewB.new (W : World) {B : Nat} (h : B ≤ W.heap.size) : NewB (W.alloc (.cells #[.slice none 0 0, .slice none 0 0, .slice none 0 0] 27)) B (.pointer (some ⟨W.heap.size, 0, none⟩)) :=
 ⟨_, rfl, h, by show (W.heap.push _)[W.heap.size]? = _; rw [Array.getElem?_push_size]⟩
def NewRows (W : World) (B n : Nat) (u : Value) : Prop := ∃ g, u = .slice (some ⟨g, 0, none⟩) n n ∧ B ≤ g ∧ OwnEE W B (.slice (some ⟨g, 0, none⟩) n n) (List.replicate n []) [g]
theorem NewRows.keep {W W' : World} {B n : Nat} {u : Value} (h : NewRows W B n u) (hs : Since W W') : NewRows W' B n u := by
 obtain ⟨g, h1, h2, h3⟩ := h
 exact ⟨g, h1, h2, lawEE.keep h3 hs.below⟩
theorem own_neN {W : World} {base b : Nat} {v x y z : Value} {xs : List Int} (h : Own W base v xs) (hb : BoxN W b x y z) : v.ownBlock ≠ some b := by
 rcases h.2 with ⟨rfl, _⟩ | ⟨g, cap, cur, rfl, _, hc, _⟩
 ·simp [Value.ownBlock]
 ·intro e
  simp [Value.ownBlock] at e
  subst e
  unfold BoxN at hb
  rw [hb] at hc
  simp at hc
theorem own_neR {W : World} {base base' g : Nat} {v : Value} {n c : Nat} {xs : List Int} {ess : List (List (Int × Int))} {S : List Nat} (h : Own W base v xs) (hg : OwnEE W base' (.slice (some ⟨g, 0, none⟩) n c) ess S) : v.ownBlock ≠ some g := by
 rcases h.2 with ⟨rfl, _⟩ | ⟨q, cap, cur, rfl, _, hc, _⟩
 ·simp [Value.ownBlock]
 ·intro e
  simp [Value.ownBlock] at e
  subst e
  obtain ⟨vs, Ss, h1, _⟩ := hg
  rcases h1.2 with ⟨h0, _⟩ | ⟨q', cap', cur', h0, _, hc', _⟩
  ·cases h0
  ·cases h0
   rw [hc] at hc'
   simp at hc'
theorem boxN_neR {W : World} {base' g b : Nat} {x y z : Value} {n c : Nat} {ess : List (List (Int × Int))} {S : List Nat} (h : BoxN W b x y z) (hg : OwnEE W base' (.slice (some ⟨g, 0, none⟩) n c) ess S) : b ≠ g := by
 intro e
 subst e
 obtain ⟨vs, Ss, h1, _⟩ := hg
 rcases h1.2 with ⟨h0, _⟩ | ⟨q', cap', cur', h0, _, hc', _⟩
 ·cases h0
 ·cases h0
  unfold BoxN at h
  rw [h] at hc'
  simp at hc'
theorem app_endsE {w w0 : World} {ops : Array Oper} {rest : List Oper} {o : Oper} {a : Act} {Q : Exit → Act → World → Prop} (hgd : o.guard = none) (s x : Operand)
  (ho : o.op = .call { callee := .builtin .append, args := #[s, x], argTypes := #[81, 81] }) {v u : Value} {xs ys : List (Int × Int)} {T : List Nat} (hs : a.eval s = v) (h : OwnE w w0.heap.size v xs T) (hy : EndS w u ys)
  (hx : a.eval x = u) (hl : xs.length + ys.length ≤ 1000000) (hsn : Since w0 w)
  (k : ∀ v' w' T', OwnE w' w0.heap.size v' (xs ++ ys) T' → (∀ j ∈ T', j ∈ T ∨ j = w.heap.size) → Only T w w' → Since w0 w' → wpList Tryz.prog ops Q rest (a.put o.dst v') w') : wpList Tryz.prog ops Q (o :: rest) a w := by
 obtain ⟨i0, hi, hz0, hz1, hz2⟩ := info_parts end_info
 obtain ⟨A, c, rfl, _, _, hA⟩ := hy
 have hlt := fun q hq => World.ownsRow.lt h.1 q hq
 rcases Nat.eq_zero_or_pos ys.length with h0 | h0
 ·have hys : ys = [] := List.eq_nil_of_length_eq_zero h0
  subst hys
  refine wpList_plain hgd fun K hK => ?_
  have hrun : (Builtin.append_ #[81, 81] o.type #[v, .slice A 0 c]).run Tryz.prog w = .ok v w := by
   rcases h.1.2 with ⟨rfl, hx0⟩ | ⟨g, cap, cur, rfl, _, _, hnc, _⟩
   ·cases A <;> simp [Builtin.append_, run_underlying Tryz.underlying81, sizeOf, typeInfo, hi, Builtin.lenOf, Builtin.firstCells, loadCells, loadCellsFrom, Result.andThen]
   ·cases A <;> simp [Builtin.append_, run_underlying Tryz.underlying81, sizeOf, typeInfo, hi, Builtin.lenOf, Builtin.firstCells, hnc, storeCells, loadCells, loadCellsFrom, Result.andThen]
  simp only [List.length_nil] at hx
  unfold Oper.wp
  simp [execOp, ho, resolve, invoke, builtin, hs, hx, hrun, Result.andThen]
  exact hK _ _ (k v w T (by simpa using h) (fun j hj => .inl hj) (Only.refl _ _) hsn)
 ·obtain ⟨y0, hy0⟩ := getx ys 0 h0
  obtain ⟨b, off, rfl, _⟩ := hA 0 y0 hy0
  refine wpList_append_lies w hgd s x 81 ho w0.heap.size 83 i0 _ 2 16 Tryz.underlying81 hi hz0 hz1 hz2 rfl (by decide) v xs.length (xs.flatMap encE) hs h.1 ⟨b, off, none⟩ ys.length c (ys.flatMap encE) hx (encE_len ys)
   (by
    intro j u hj
    have hj2 := lt_of_get hj
    rw [encE_len] at hj2
    obtain ⟨e, he⟩ := getx ys (j / 2) (by omega)
    obtain ⟨b', off', e', c1, c2⟩ := hA (j / 2) e he
    cases e'
    obtain ⟨g1, g2⟩ := encE_get he
    rw [Go.Addr.add_lit]
    rcases Nat.mod_two_eq_zero_or_one j with hm | hm
    ·have e1 : j / 2 * 2 = j := by omega
     rw [e1] at c1 g1
     rw [g1] at hj
     rw [c1]; exact hj
    ·have e1 : j / 2 * 2 + 1 = j := by omega
     rw [e1] at g2
     rw [show off + j / 2 * 2 + 1 = off + j by omega] at c2
     rw [g2] at hj
     rw [c2]; exact hj) (by intro u hu; obtain ⟨x, _, hx⟩ := List.mem_flatMap.1 hu; simp [encE] at hx; rcases hx with rfl | rfl <;> rfl) h0 (by unfold maxLen; omega) (by omega) hsn.below.size w.heap.size rfl ?_
  intro g cap w' q1 q2 q3 q4
  have hT := h.2
  refine k _ w' _ ⟨?_, rfl⟩ ?_ (by rw [hT]; exact Only.of_grown q2) (Below.grown hsn q2 hsn.below.size (fun q hq => (hlt q hq).1))
  ·rw [List.flatMap_append, List.length_append]
   exact q1
  ·intro j hj
   simp [Value.ownBlock] at hj
   subst hj
   rcases q3 with q3 | q3
   ·left; rw [hT, q3]; simp
   ·exact .inr q3
theorem OwnRows.snocC {β : Type} {R : World → Nat → Value → β → List Nat → Prop} {e : TypeId} (L : RowLaw R) {w w' : World} {base g cap : Nat} {v u : Value} {xs : List β} {x : β} {S T : List Nat} (h : OwnRows e R w base v xs S) (hu : R w base u x T) (hd : ∀ j ∈ T, j ∉ S)
  (vs : List Value) (Ss : List (List Nat)) (h1 : w.ownsRow base e 1 v xs.length vs) (h2 : Ss.length = xs.length) (h3 : ∀ (k : Nat) u x T, vs[k]? = some u → xs[k]? = some x → Ss[k]? = some T → R w base u x T) (h4 : S = v.ownBlock.toList ++ Ss.flatten) (h5 : S.Nodup)
  (q1 : w'.ownsRow base e 1 (.slice (some ⟨g, 0, none⟩) (xs.length + 1) cap) (xs.length + 1) (vs ++ [u])) (q2 : w.grownBy w' v.ownBlock) (q3 : v.ownBlock = some g ∨ g = w.heap.size) :
  ∃ S', OwnRows e R w' base (.slice (some ⟨g, 0, none⟩) (xs.length + 1) cap) (xs ++ [x]) S' ∧ (∀ j ∈ S', j ∈ S ∨ j ∈ T ∨ j = w.heap.size) := by
 have hS := (rows_law e L).range h
 have hTr := L.range hu
 have hvl : vs.length = xs.length := by simpa using h1.1
 have h5' := h5
 rw [h4, List.nodup_append] at h5'
 have hin : ∀ j ∈ Ss.flatten, j ∈ S := fun j hj => by rw [h4]; exact List.mem_append_right _ hj
 have hon := Only.of_grown q2
 have hnv : ∀ j ∈ Ss.flatten, j ∉ v.ownBlock.toList := fun j hj hv => h5'.2.2 j hv j hj rfl
 have hTv : ∀ j ∈ T, j ∉ v.ownBlock.toList := fun j hj hv => hd j hj (by rw [h4]; exact List.mem_append_left _ hv)
 have hg : g ∉ Ss.flatten := fun hg => by
  rcases q3 with q3 | q3
  ·exact hnv g hg (by rw [q3]; simp)
  ·have := (hS g (hin g hg)).2; omega
 have hgT : g ∉ T := fun hg => by
  rcases q3 with q3 | q3
  ·exact hTv g hg (by rw [q3]; simp)
  ·have := (hTr g hg).2; omega
 refine ⟨[g] ++ (Ss ++ [T]).flatten, ⟨vs ++ [u], Ss ++ [T], ?_, by simp [h2], ?_, by simp [Value.ownBlock], ?_⟩, ?_⟩
 ·rw [List.length_append]; exact q1
 ·intro k u' x' T' hu' hx' hT'
  rcases Nat.lt_or_ge k xs.length with hk | hk
  ·rw [List.getElem?_append_left (by omega)] at hu' hx' hT'
   exact L.only (h3 k u' x' T' hu' hx' hT') hon (fun j hj => hnv j (List.mem_flatten.2 ⟨T', List.mem_of_getElem? hT', hj⟩))
  ·have hk1 : k = xs.length := by
    have := lt_of_get hx'
    simp at this; omega
   subst hk1
   rw [List.getElem?_append_right (Nat.le_refl _), Nat.sub_self] at hx'
   rw [← hvl, List.getElem?_append_right (Nat.le_refl _), Nat.sub_self] at hu'
   rw [← h2, List.getElem?_append_right (Nat.le_refl _), Nat.sub_self] at hT'
   simp at hu' hx' hT'
   subst hu' hx' hT'
   exact L.only hu hon hTv
 ·rw [List.flatten_append, List.nodup_append]
  refine ⟨by simp, ?_, ?_⟩
  ·rw [List.nodup_append]
   refine ⟨h5'.2.1, by simpa using L.nodup hu, ?_⟩
   intro a ha b hb e
   simp at hb
   subst e
   exact hd a hb (hin a ha)
  ·intro a ha b hb e
   simp at ha
   subst e ha
   rcases List.mem_append.1 hb with hb | hb
   ·exact hg hb
   ·simp at hb; exact hgT hb
 ·intro j hj
  rw [List.flatten_append] at hj
  rcases List.mem_append.1 hj with hj | hj
  ·simp at hj
   subst hj
   rcases q3 with q3 | q3
   ·left; rw [h4, q3]; simp
   ·exact .inr (.inr q3)
  ·rcases List.mem_append.1 hj with hj | hj
   ·exact .inl (hin j hj)
   ·simp at hj; exact .inr (.inl hj)
theorem app_rowN {w wT : World} {ops : Array Oper} {rest : List Oper} {o : Oper} {a : Act} {Q : Exit → Act → World → Prop} (hgd : o.guard = none) (s x : Operand)
  (ho : o.op = .call { callee := .builtin .append, args := #[s, x], argTypes := #[24, 24] }) {base : Nat} {v ui un u : Value} {N : Net} {S T : List Nat} {es : List (Int × Int)} (hs : a.eval s = v) (h : OwnNet w base v ui un N S)
  (b : Nat) (hx : a.eval x = .slice (some ⟨b, 0, none⟩) 1 1) (hc : w.cell? ⟨b, 0, none⟩ = some u) (hu : OwnE w base u es T) (hd : ∀ j ∈ T, j ∉ S) (hl : N.ends.length + 1 ≤ 1000000) (hsn : Since wT w) (hbs : base ≤ w.heap.size) (hvT : ∀ q, v.ownBlock = some q → wT.heap.size ≤ q)
  (k : ∀ v' w' S', (∀ q, v'.ownBlock = some q → v.ownBlock = some q ∨ q = w.heap.size) → OwnNet w' base v' ui un { N with ends := N.ends ++ [es] } S' → (∀ j ∈ S', j ∈ S ∨ j ∈ T ∨ j = w.heap.size) → Only S w w' → Since wT w' → wpList Tryz.prog ops Q rest (a.put o.dst v') w') : wpList Tryz.prog ops Q (o :: rest) a w := by
 obtain ⟨i0, hi, hz0, hz1, hz2⟩ := info_parts es_info
 have hrg := h.range
 obtain ⟨S1, S2, S3, h1, h2, h3, h4, h5⟩ := h
 have h1b := h1
 obtain ⟨vs, Ss, r1, r2, r3, r4, r5⟩ := h1
 obtain ⟨A, m, c, rfl⟩ := lawE.one hu
 refine wpList_append_lies w hgd s x 24 ho base 81 i0 _ 1 24 Tryz.underlying24 hi hz0 hz1 hz2 rfl (by decide) v N.ends.length vs hs r1 ⟨b, 0, none⟩ 1 1 [.slice A m c] hx rfl
  (by intro j u hj; match j, hj with | 0, hj => (simp at hj; subst hj; simpa [Addr.add] using hc) | j + 1, hj => simp at hj) (by simp [Value.oneCell']) (by omega) (by unfold maxLen; omega) (by omega) hbs w.heap.size rfl ?_
 intro g cap w' q1 q2 q3 q4
 rw [h4, List.nodup_append] at h5
 obtain ⟨n1, n2, n3⟩ := h5
 have hd1 : ∀ j ∈ T, j ∉ S1 := fun j hj hS => hd j hj (by rw [h4]; exact List.mem_append_left _ hS)
 obtain ⟨S1', o1, hS1⟩ := OwnRows.snocC lawE h1b hu hd1 vs Ss r1 r2 r3 r4 r5 q1 q2 q3
 have hon := Only.of_grown q2
 have hvS : ∀ j ∈ v.ownBlock.toList, j ∈ S1 := fun j hj => by rw [r4]; exact List.mem_append_left _ hj
 have d : ∀ j ∈ S2 ++ S3, j ∉ v.ownBlock.toList := fun j hj hv => n3 j (hvS j hv) j hj rfl
 refine k _ w' (S1' ++ (S2 ++ S3)) (fun q hq => by simp [Value.ownBlock] at hq; subst hq; exact q3) ⟨S1', S2, S3, ?_, lawI.only h2 hon (fun j hj => d j (List.mem_append_left _ hj)), lawI.only h3 hon (fun j hj => d j (List.mem_append_right _ hj)), rfl, ?_⟩ ?_ (hon.mono fun j hj => by rw [h4]; exact List.mem_append_left _ (hvS j hj)) (Below.grown hsn q2 hsn.below.size hvT)
 ·exact o1
 ·rw [List.nodup_append]
  refine ⟨lawEE.nodup o1, n2, fun a ha b hb hab => ?_⟩
  subst hab
  rcases hS1 a ha with h | h | h
  ·exact n3 a h a hb rfl
  ·exact hd a h (by rw [h4]; exact List.mem_append_right _ hb)
  ·have := (hrg a (by rw [h4]; exact List.mem_append_right _ hb)).2
   omega
 ·intro j hj
  rcases List.mem_append.1 hj with hj | hj
  ·rcases hS1 j hj with h | h | h
   ·exact .inl (by rw [h4]; exact List.mem_append_left _ h)
   ·exact .inr (.inl h)
   ·exact .inr (.inr h)
  ·exact .inl (by rw [h4]; exact List.mem_append_right _ hj)
theorem OwnNet.setEnd {w : World} {base g c n : Nat} {vi vn : Value} {N : Net} {S : List Nat} (h : OwnNet w base (.slice (some ⟨g, 0, none⟩) n c) vi vn N S) {k j : Nat} {es : List (Int × Int)} (hx : N.ends[k]? = some es) (hj : j < es.length) :
  ∃ gr cr, w.cell? ⟨g, k, none⟩ = some (.slice (some ⟨gr, 0, none⟩) es.length cr) ∧ es.length ≤ cr ∧ cr ≤ maxLen ∧ g ∈ S ∧ gr ∈ S ∧ g ≠ gr ∧ (w.frozen? ⟨gr, j * 2, none⟩ = false ∧ w.frozen? ⟨gr, j * 2 + 1, none⟩ = false) ∧ (∃ z, w.cell? ⟨gr, j * 2, none⟩ = some z) ∧ (∃ z, w.cell? ⟨gr, j * 2 + 1, none⟩ = some z) ∧
   ∀ y : Int × Int, OwnNet ((w.setCell ⟨gr, j * 2, none⟩ (.int .i64 y.1)).setCell ⟨gr, j * 2 + 1, none⟩ (.int .i64 y.2)) base (.slice (some ⟨g, 0, none⟩) n c) vi vn { N with ends := N.ends.set k (es.set j y) } S := by
 obtain ⟨S1, S2, S3, h1, h2, h3, h4, h5⟩ := h
 obtain ⟨u, T, hu, hR, hT, hup⟩ := OwnRows.touch lawE h1 hx
 have hnd := (rows_law _ lawE).nodup h1
 obtain ⟨_, _, _, _, _, hdis, _, hg1⟩ := OwnRows.at_ h1 hx
 rw [h4, List.nodup_append] at h5
 obtain ⟨n1, n2, n3⟩ := h5
 have hR' := hR.1
 rcases ownsRow_cases hR.1 with ⟨rfl, h0⟩ | ⟨gr, cr, rfl, hb1, hb2, hb3, hb4⟩
 ·omega
 ·have hgrT : gr ∈ T := by rw [hR.2]; simp [Value.ownBlock]
  obtain ⟨y0, hy0⟩ := getx es j hj
  obtain ⟨c1, c2, ff⟩ := OwnE.cells hR hy0
  have hne : g ≠ gr := fun e => by
   subst e
   obtain ⟨vs, Ss, e1, _⟩ := h1
   rcases e1.2 with ⟨h0, _⟩ | ⟨q', cap', cur', h0, _, hc', _⟩
   ·cases h0
   ·cases h0
    rcases hR'.2 with ⟨h0, _⟩ | ⟨q'', cap'', cur'', h0, _, hc'', _⟩
    ·cases h0
    ·cases h0
     rw [hc'] at hc''
     simp at hc''
  refine ⟨gr, cr, hu, hb3, hb4, by rw [h4]; exact List.mem_append_left _ hg1, by rw [h4]; exact List.mem_append_left _ (hT gr hgrT), hne, ff, ⟨_, c1⟩, ⟨_, c2⟩, fun y => ?_⟩
  have hon : Only T w ((w.setCell ⟨gr, j * 2, none⟩ (.int .i64 y.1)).setCell ⟨gr, j * 2 + 1, none⟩ (.int .i64 y.2)) := ((Only.refl _ _).setCell (.inl hgrT) _).setCell (.inl hgrT) _
  have d : ∀ q ∈ S2 ++ S3, q ∉ T := fun q hq hqT => n3 q (hT q hqT) q hq rfl
  exact ⟨S1, S2, S3, hup _ _ (OwnE.set hR hj y) hon, lawI.only h2 hon (fun q hq => d q (List.mem_append_left _ hq)), lawI.only h3 hon (fun q hq => d q (List.mem_append_right _ hq)), h4, by rw [h4, List.nodup_append]; exact ⟨n1, n2, n3⟩⟩
theorem trunc_box {w : World} {b : Nat} {x y z : Value} (h : BoxN w b x y z) : BoxN (trunc w (b + 1)) b x y z := by
 have := h.lt
 unfold BoxN at h ⊢
 simp only [trunc, Array.getElem?_extract]
 rw [if_pos (by omega)]
 simpa using h
theorem BoxN.only {S : List Nat} {W W' : World} {b : Nat} {x y z : Value} (h : BoxN W b x y z) (ho : Only S W W') (hb : b ∉ S) : BoxN W' b x y z := (ho.block b h.lt hb).trans h
theorem BoxN.put0 {W : World} {b : Nat} {x y z : Value} (h : BoxN W b x y z) (u : Value) : BoxN (W.setCell ⟨b, 0, none⟩ u) b u y z := by
 unfold BoxN at h ⊢
 simp [World.setCell, Array.getElem?_modify, h]
theorem BoxN.put1 {W : World} {b : Nat} {x y z : Value} (h : BoxN W b x y z) (u : Value) : BoxN (W.setCell ⟨b, 1, none⟩ u) b x u z := by
 unfold BoxN at h ⊢
 simp [World.setCell, Array.getElem?_modify, h]
theorem BoxN.put2 {W : World} {b : Nat} {x y z : Value} (h : BoxN W b x y z) (u : Value) : BoxN (W.setCell ⟨b, 2, none⟩ u) b x y u := by
 unfold BoxN at h ⊢
 simp [World.setCell, Array.getElem?_modify, h]
theorem BoxN.other {W : World} {b : Nat} {x y z u : Value} {a : Addr} (h : BoxN W b x y z) (ha : b ≠ a.block) : BoxN (W.setCell a u) b x y z := (Below.heap_setCell W a u b ha).trans h
theorem ownNet_of {w : World} {base : Nat} {v ui un : Value} {ess : List (List (Int × Int))} {ids ins : List Int} {S1 : List Nat} (hE : OwnEE w base v ess S1) (h1 : Own w base ui ids) (h2 : Own w base un ins)
  (d1 : ∀ j ∈ S1, ui.ownBlock ≠ some j) (d2 : ∀ j ∈ S1, un.ownBlock ≠ some j) (d3 : ∀ j, ui.ownBlock = some j → un.ownBlock ≠ some j) :
  OwnNet w base v ui un ⟨ess, ids, ins⟩ (S1 ++ (ui.ownBlock.toList ++ un.ownBlock.toList)) := by
 refine ⟨S1, _, _, hE, ⟨h1, rfl⟩, ⟨h2, rfl⟩, rfl, ?_⟩
 rw [List.nodup_append, List.nodup_append]
 refine ⟨lawEE.nodup hE, ⟨by cases ui.ownBlock <;> simp, by cases un.ownBlock <;> simp, ?_⟩, ?_⟩
 ·intro a ha b hb e
  subst e
  exact d3 a (by simpa using ha) (by simpa using hb)
 ·intro a ha b hb e
  subst e
  rcases List.mem_append.1 hb with hb | hb
  ·exact d1 a ha (by simpa using hb)
  ·exact d2 a ha (by simpa using hb)
theorem app_zeroI {w : World} {ops : Array Oper} {rest : List Oper} {o : Oper} {a : Act} {Q : Exit → Act → World → Prop} (hgd : o.guard = none) (s x : Operand)
  (ho : o.op = .call { callee := .builtin .append, args := #[s, x], argTypes := #[25, 25] }) {base : Nat} {v : Value} {xs : List Int} (hs : a.eval s = v) (h : Own w base v xs) (A : Option Addr) (c : Nat) (hx : a.eval x = .slice A 0 c)
  (k : wpList Tryz.prog ops Q rest (a.put o.dst v) w) : wpList Tryz.prog ops Q (o :: rest) a w := by
 obtain ⟨i0, hi, hz0, hz1, hz2⟩ := info_parts int_info
 refine wpList_plain hgd fun K hK => ?_
 have hrun : (Builtin.append_ #[25, 25] o.type #[v, .slice A 0 c]).run Tryz.prog w = .ok v w := by
  rcases h.2 with ⟨rfl, hx0⟩ | ⟨g, cap, cur, rfl, _, _, hnc, _⟩
  ·cases A <;> simp [Builtin.append_, run_underlying Tryz.underlying25, sizeOf, typeInfo, hi, Builtin.lenOf, Builtin.firstCells, loadCells, loadCellsFrom, Result.andThen]
  ·cases A <;> simp [Builtin.append_, run_underlying Tryz.underlying25, sizeOf, typeInfo, hi, Builtin.lenOf, Builtin.firstCells, hnc, storeCells, loadCells, loadCellsFrom, Result.andThen]
 unfold Oper.wp
 simp [execOp, ho, resolve, invoke, builtin, hs, hx, hrun, Result.andThen]
 exact hK _ _ k
theorem ownE_lit0 (w : World) : OwnE (w.alloc (.cells #[] 83)) w.heap.size (.slice (some ⟨w.heap.size, 0, none⟩) 0 0) [] [w.heap.size] := by
 have := World.ownsRow_lit (base := w.heap.size) (e := 83) (size := 2) w #[] 0 (Nat.le_refl _) (by simp [maxLen]) (by simp)
 exact ⟨this, rfl⟩
set_option maxHeartbeats 1000000 in
theorem l1Own_all (v : Value) (xs : List Int) (w : World) (h : IntS w v xs) (hl : xs.length ≤ 17592186044416) :
  Calls Tryz.prog 179 #[v] w fun e w' => ∃ u, e = .returned u ∧ Own w' w.heap.size u xs ∧ Below w.heap.size w w' := by
 rcases Nat.eq_zero_or_pos xs.length with h0 | h0
 ·obtain rfl : xs = [] := List.eq_nil_of_length_eq_zero h0
  obtain ⟨A, c, rfl, hlc, hm, _⟩ := h
  have ho := own_lit w [] (by simp [maxLen])
  simp only [List.map_nil, List.length_nil] at ho
  have Ho := Lib.hid ho
  clear ho
  go_enter Tryz.func179, Tryz.ntmps179
  go_wp2_with (at_builtin; refine app_zeroI rfl _ _ rfl rfl Ho.out A c rfl ?_)
  go_wp2
  go_ret
  exact ⟨_, rfl, Ho.out, below_alloc _ _⟩
 ·exact l1Own_any v xs w h h0 hl
set_option maxRecDepth 100000 in
set_option maxHeartbeats 1000000 in
theorem cloneE_any (v : Value) (es : List (Int × Int)) (w : World) (h : EndS w v es) (hl : es.length ≤ 1000000) :
  Calls Tryz.prog 134 #[v] w fun e w' => ∃ u T, e = .returned u ∧ OwnE w' w.heap.size u es T ∧ Below w.heap.size w w' := by
 have hE := h
 have q53 : ∀ (w : World) (a : Option Addr) (n c n' c' : Nat), (binOp .eql 81 (.slice a n c) (.slice none n' c')).run Tryz.prog w = .ok (.bool a.isNone) w := fun w a n c n' c' => Lib.run_eql_slice_nil w _ _ a n c n' c' Tryz.underlying81
 obtain ⟨A, c, rfl, hlc, hm, hA⟩ := h
 cases A with
 | none =>
  have h0 : es = [] := by
   cases es with
   | nil => rfl
   | cons e es =>
    obtain ⟨_, _, h, _⟩ := hA 0 e rfl
    cases h
  subst h0
  go_enter Tryz.func134, Tryz.ntmps134
  go_wp2
  go_ret
  exact ⟨_, _, rfl, ⟨World.ownsRow_nil _ _ _ _, rfl⟩, Below.refl _ _⟩
 | some A =>
  have Ho := Lib.hid (ownE_lit0 w)
  have HE := Lib.hid (hE.keep (below_alloc w (.cells #[] 83)))
  clear hE hA
  go_enter Tryz.func134, Tryz.ntmps134
  go_wp2_with (at_builtin; refine app_endsE (w0 := w) rfl _ _ rfl rfl Ho.out HE.out rfl (by simpa using hl) (since_alloc _ (since_refl _)) ?_; intro v9 w9 T9 ho9 _ _ hs9)
  have Ho9 := Lib.hid ho9
  have Hs9 := Lib.hid hs9
  clear ho9 hs9
  go_wp2
  go_ret
  exact ⟨_, _, rfl, by simpa using Ho9.out, Hs9.out.below⟩
end Go.Proofs.YtgmdpppljkmabaaGreat
namespace Go.Proofs.YtgmdpppljkmabaaGreat
end Go.Proofs.YtgmdpppljkmabaaGreat
namespace Go.Proofs.YtgmdpppljkmabaaGreat
open Go.RowKit
theorem netOk_row {n : Net} (h : netOk n = true) {k : Nat} {es : List (Int × Int)} (hes : n.ends[k]? = some es) : es.length ≤ 6 ∧ ∀ e ∈ es, 0 ≤ e.1 ∧ e.1 < n.ends.length := by
 have hk := lt_of_get hes
 have h' := h
 unfold netOk at h
 rw [Bool.and_eq_true, List.all_eq_true] at h
 have := h.2 k (List.mem_range.2 hk)
 rw [getD_of hes] at this
 unfold rowOkB at this
 rw [Bool.and_eq_true, List.all_eq_true] at this
 refine ⟨by simpa using this.1, fun e he => ?_⟩
 obtain ⟨j, hj⟩ := List.getElem?_of_mem he
 have := this.2 j (List.mem_range.2 (lt_of_get hj))
 rw [getD_of hj] at this
 unfold endOkB at this
 rw [Bool.and_eq_true] at this
 exact hasPort_lt this.1
theorem cast_beq1 (c : Nat) : ((c : Int) == 1) = (c == 1) := by rw [Bool.eq_iff_iff]; simp; omega
theorem countP_snoc {p : Int → Bool} {xs : List Int} {y : Int} : (xs ++ [y]).countP p = xs.countP p + if p y then 1 else 0 := by
 rw [List.countP_append]; simp [List.countP_cons]
end Go.Proofs.YtgmdpppljkmabaaGreat
