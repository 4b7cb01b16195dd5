/- Parts of the proof: walks of functions and plain laws. -/
import Derived.Test.YtfkmkpamdlhbgaaGreatP12
import Derived.Test.YtfkmkpamdlhbgaaGreatP0
import Derived.Test.YtfkmkpamdlhbgaaGreatP8
import Derived.Test.YtfkmkpamdlhbgaaGreatP7
import Derived.Test.YtfkmkpamdlhbgaaGreatP9
import Derived.Test.YtfkmkpamdlhbgaaGreatP11
import Derived.Test.YtfkmkpamdlhbgaaGreatP10
namespace Go.Proofs.YtfkmkpamdlhbgaaGreat
open Go.RowKit
/-! the labels of even components are accepted -/
structure Kids (n : Net) (dep : Nat → Int) (par : Nat → Option Nat) (kid : Nat → Nat → Bool) : Prop where
  iff_ : ∀ v i, i < (n.ends.getD v []).length → kid v i = true → par (farAt n v i) = some v ∧ dep (farAt n v i) = dep v + 1 ∧ farAt n v i < n.ends.length
  of_ : ∀ v c, c < n.ends.length → par c = some v → ∃ i, i < (n.ends.getD v []).length ∧ kid v i = true ∧ farAt n v i = c
  one : ∀ v i j, i < (n.ends.getD v []).length → j < (n.ends.getD v []).length → kid v i = true → kid v j = true → farAt n v i = farAt n v j → i = j
def kidBelow (n : Net) (dep : Nat → Int) (par : Nat → Option Nat) (kid : Nat → Nat → Bool) (v j w : Nat) : Bool := (List.range j).any fun i => kid v i && anc dep par w (farAt n v i)
theorem Kids.step {n : Net} {dep : Nat → Int} {par : Nat → Option Nat} {kid : Nat → Nat → Bool} (hT : Tr n.ends.length dep par) (h : Kids n dep par kid) {v j : Nat} (hj : j < (n.ends.getD v []).length) :
    (List.range n.ends.length).countP (kidBelow n dep par kid v (j + 1)) = (List.range n.ends.length).countP (kidBelow n dep par kid v j) + (if kid v j = true then subB n.ends.length dep par (farAt n v j) else 0) := by
  have hstep : ∀ w, kidBelow n dep par kid v (j + 1) w = (kidBelow n dep par kid v j w || (kid v j && anc dep par w (farAt n v j))) := fun w => by
    unfold kidBelow
    rw [List.range_succ, List.any_append]
    simp
  by_cases hk : kid v j = true
  · rw [if_pos hk]
    unfold subB
    refine countP_or (fun w _ => by rw [hstep, hk, Bool.true_and]) fun w hw hb => ?_
    have hwN := List.mem_range.1 hw
    rw [Bool.eq_false_iff]
    intro ha
    unfold kidBelow at hb
    rw [List.any_eq_true] at hb
    obtain ⟨i, hi, hb⟩ := hb
    have hi := List.mem_range.1 hi
    rw [Bool.and_eq_true] at hb
    have q1 := (h.iff_ v i (by omega) hb.1).2.1
    have q2 := (h.iff_ v j hj hk).2.1
    have := anc_one hT _ w _ _ hwN (Nat.le_refl _) hb.2 ha (by omega)
    have := h.one v i j (by omega) hj hb.1 hk this
    omega
  · rw [if_neg hk, Nat.add_zero]
    exact List.countP_congr fun w _ => by rw [hstep, Bool.eq_false_iff.2 hk]; simp
theorem Kids.sub {n : Net} {dep : Nat → Int} {par : Nat → Option Nat} {kid : Nat → Nat → Bool} (hT : Tr n.ends.length dep par) (h : Kids n dep par kid) {v : Nat} (hv : v < n.ends.length) : subB n.ends.length dep par v = 1 + (List.range n.ends.length).countP (kidBelow n dep par kid v (n.ends.getD v []).length) := by
  unfold subB
  have h1 : (List.range n.ends.length).countP (fun w => w == v) = 1 := by
    have h2 : (List.range n.ends.length).count v = 1 := by rw [List.Nodup.count List.nodup_range, if_pos (List.mem_range.2 hv)]
    rw [← h2]; rfl
  have h2 := countP_or (p := fun w => w == v) (q := kidBelow n dep par kid v (n.ends.getD v []).length) (r := fun w => anc dep par w v) (l := List.range n.ends.length) (fun w hw => ?_) (fun w hw hb => ?_)
  · rw [h2, h1]
  · have hwN := List.mem_range.1 hw
    rw [Bool.eq_iff_iff, Bool.or_eq_true, beq_iff_eq]
    constructor
    · intro ha
      by_cases e : w = v
      · exact .inl e
      · obtain ⟨c, hc, c1, c2⟩ := anc_child hT _ w v hwN (Nat.le_refl _) ha e
        obtain ⟨i, i1, i2, i3⟩ := h.of_ v c hc c1
        right
        unfold kidBelow
        rw [List.any_eq_true]
        exact ⟨i, List.mem_range.2 i1, by rw [i2, i3, c2]; rfl⟩
    · rintro (rfl | hb)
      · exact anc_self hT hwN
      · unfold kidBelow at hb
        rw [List.any_eq_true] at hb
        obtain ⟨i, hi, hb⟩ := hb
        rw [Bool.and_eq_true] at hb
        exact anc_up hT _ w _ v hwN (Nat.le_refl _) hb.2 (h.iff_ v i (List.mem_range.1 hi) hb.1).1
  · have e := eq_of_beq hb
    subst e
    rw [Bool.eq_false_iff]
    intro hb
    unfold kidBelow at hb
    rw [List.any_eq_true] at hb
    obtain ⟨i, hi, hb⟩ := hb
    rw [Bool.and_eq_true] at hb
    have h3 := (h.iff_ _ i (List.mem_range.1 hi) hb.1).2.1
    have h4 := (anc_dep hT _ w _ hv (Nat.le_refl _) hb.2).2
    rcases h4 with h4 | h4
    · rw [h4] at h3; omega
    · omega
/-- the parts of a prover's label -/
theorem evLab_parts {n : Net} (hn : netOk n = true) (h0 : n.ids.length ≠ 0) {v : Nat} (hv : v < n.ends.length) :
    ev0 (evLab n v) = n.ids.getD (leastB n v) 0 ∧ ev1 (evLab n v) = depB n v ∧ ev2 (evLab n v) = (if ptB n v < 0 then 9 else ptB n v) ∧ ev3 (evLab n v) = ((subB n.ends.length (depB n) (parB n) v % 2 : Nat) : Int) ∧ 0 ≤ evLab n v ∧ evLab n v ≤ 2000000000 ∧ (0 ≤ ptB n v → ptB n v < 6) := by
  have hl := least_lt hn hv
  have hN := netOk_len hn
  have h1 := (id_rng hn h0).2 _ hl
  have h2 : 0 ≤ depB n v := (trB hn).pos v hv
  have h3 : depB n v < n.ends.length := (distI_bd hn hl hv).2
  have h4 : 0 ≤ ptB n v → ptB n v < 6 := fun h => by
    obtain ⟨a, -, -, -, -, b⟩ := towB_step hn hl (r := leastB n v) (v := v) h
    have h5 : n.ends[v]? = some (n.ends.getD v []) := by rw [List.getD_eq_getElem?_getD, List.getElem?_eq_getElem hv]; rfl
    have h6 := (netOk_row hn h5).1
    have h7 : (ptB n v).toNat < (n.ends.getD v []).length := b
    omega
  obtain ⟨q, hq⟩ : ∃ q, (if ptB n v < 0 then 9 else ptB n v) = q := ⟨_, rfl⟩
  have hqb : 0 ≤ q ∧ q ≤ 9 := by
    rw [← hq]
    split
    · omega
    · have := h4 (by omega); omega
  obtain ⟨b, hb⟩ : ∃ b : Int, ((subB n.ends.length (depB n) (parB n) v % 2 : Nat) : Int) = b := ⟨_, rfl⟩
  have hbb : 0 ≤ b ∧ b ≤ 1 := by omega
  unfold evLab ev0 ev1 ev2 ev3
  rw [hq, hb]
  refine ⟨by omega, by omega, by omega, by omega, by omega, by omega, h4⟩
end Go.Proofs.YtfkmkpamdlhbgaaGreat
namespace Go.Proofs.YtfkmkpamdlhbgaaGreat
open Go.RowKit
/-! both together -/
structure PpOk (n : Net) (s : Int) : Prop where
  len : (ppL n s).length = n.ends.length
  acc : AllAcc n s (ppL n s)
  rng : ∀ x ∈ ppL n s, 0 ≤ x ∧ x ≤ 2000000000 ∧ (s = 1 → x ≤ 1) ∧ (s = 2 → x ≤ 2)
theorem PpOk.lab {n : Net} {s : Int} (hn : netOk n = true) (hs : 1 ≤ s ∧ s ≤ 5) (h : PpOk n s) : labOk n s (ppL n s) = true := labOk_iff.2 ⟨hn, hs, h.len, fun x hx => by have := h.rng x hx; omega⟩
end Go.Proofs.YtfkmkpamdlhbgaaGreat
namespace Go.Proofs.YtfkmkpamdlhbgaaGreat
/-! all lists of labels, in order: the digits of a number, and counting up -/
end Go.Proofs.YtfkmkpamdlhbgaaGreat
namespace Go.Proofs.YtfkmkpamdlhbgaaGreat
open Go.RowKit
theorem Only.since {S : List Nat} {w0 W W' : World} (h : Since w0 W) (ho : Only S W W') (hs : ∀ k ∈ S, w0.heap.size ≤ k) : Since w0 W' := Below.trans h (ho.below _ h.below.size hs)
end Go.Proofs.YtfkmkpamdlhbgaaGreat
namespace Go.Proofs.YtfkmkpamdlhbgaaGreat
open Go.RowKit
end Go.Proofs.YtfkmkpamdlhbgaaGreat
namespace Go.Proofs.YtfkmkpamdlhbgaaGreat
open Go.RowKit
end Go.Proofs.YtfkmkpamdlhbgaaGreat
namespace Go.Proofs.YtfkmkpamdlhbgaaGreat
open Go.RowKit
theorem I1.only {W W' : World} {b : Nat} {x : Int} {S : List Nat} (h : I1 W b x) (ho : Only S W W') (hb : b ∉ S) : I1 W' b x := (ho.block b h.lt hb).trans h
end Go.Proofs.YtfkmkpamdlhbgaaGreat
namespace Go.Proofs.YtfkmkpamdlhbgaaGreat
open Go.RowKit
/-- a cell that holds a slice of integers of the call's own -/
def U1 (W : World) (b : Nat) (u : Value) : Prop := W.heap[b]? = some (.cells #[u] 25)
theorem U1.cells {W : World} {b : Nat} {u : Value} (h : U1 W b u) : W.cell? ⟨b, 0, none⟩ = some u ∧ W.frozen? ⟨b, 0, none⟩ = false := by
  unfold U1 at h
  constructor
  · simp [World.cell?, h]
  · simp [World.frozen?, h]
theorem U1.lt {W : World} {b : Nat} {u : Value} (h : U1 W b u) : b < W.heap.size := (Array.getElem?_eq_some_iff.1 h).1
theorem U1.since {W W' : World} {b : Nat} {u : Value} (h : U1 W b u) (hs : Since W W') : U1 W' b u := (hs.below.block b h.lt).trans h
theorem U1.only {W W' : World} {b : Nat} {u : Value} {S : List Nat} (h : U1 W b u) (ho : Only S W W') (hb : b ∉ S) : U1 W' b u := (ho.block b h.lt hb).trans h
theorem U1.other {W : World} {b b' : Nat} {u : Value} (h : U1 W b u) (hb : b ≠ b') (i : Nat) (v : Value) : U1 (W.setCell ⟨b', i, none⟩ v) b u := (Below.heap_setCell W _ v b hb).trans h
theorem I1.other {W : World} {b b' : Nat} {x : Int} (h : I1 W b x) (hb : b ≠ b') (i : Nat) (v : Value) : I1 (W.setCell ⟨b', i, none⟩ v) b x := (Below.heap_setCell W _ v b hb).trans h
theorem U1.set {W : World} {b : Nat} {u : Value} (h : U1 W b u) (v : Value) : U1 (W.setCell ⟨b, 0, none⟩ v) b v := by
  unfold U1 at *
  simp [World.setCell, Array.getElem?_modify, h]
theorem U1.new (W : World) (u : Value) : U1 (W.alloc (.cells #[u] 25)) W.heap.size u := by
  unfold U1
  show (W.heap.push _)[W.heap.size]? = _
  rw [Array.getElem?_push_size]
end Go.Proofs.YtfkmkpamdlhbgaaGreat
namespace Go.Proofs.YtfkmkpamdlhbgaaGreat
open Go.RowKit
/-! two colours: the reference -/
theorem own_row {w : World} {base : Nat} {u : Value} {xs : List Int} {k : Nat} {x : Int} (h : Own w base u xs) (hx : xs[k]? = some x) : ∃ g c, u = .slice (some ⟨g, 0, none⟩) xs.length c ∧ w.cell? ⟨g, k, none⟩ = some (.int .i64 x) ∧ base ≤ g := by
  rcases h.cases with ⟨-, e1⟩ | ⟨g, c, rfl, hg1, hg2⟩
  · rw [e1] at hx; simp at hx
  · exact ⟨g, c, rfl, h.cell hx, hg1⟩
theorem distB_len {n : Net} (hn : netOk n = true) {v : Nat} (hv : v < n.ends.length) : (distB n v).length = n.ends.length := bfs_len hn _ _ _ (BI.start hv)
theorem dist_row {w : World} {base : Nat} {u : Value} {n : Net} (hn : netOk n = true) {v k : Nat} (hv : v < n.ends.length) (hk : k < n.ends.length) (h : Own w base u (distB n v)) : ∃ g c d, u = .slice (some ⟨g, 0, none⟩) n.ends.length c ∧ (distB n v)[k]? = some d ∧ w.cell? ⟨g, k, none⟩ = some (.int .i64 d) ∧ base ≤ g := by
  obtain ⟨d, hd⟩ := getx (distB n v) k (by rw [distB_len hn hv]; exact hk)
  obtain ⟨g, c, h1, h2, h3⟩ := own_row h hd
  exact ⟨g, c, d, by rw [h1, distB_len hn hv], hd, h2, h3⟩
def twoTo (n : Net) (k : Nat) : List Int := (List.range n.ends.length).map fun v => if v < k then twoAt n v else 0
theorem twoTo_len (n : Net) (k : Nat) : (twoTo n k).length = n.ends.length := by simp [twoTo]
theorem twoTo_zero (n : Net) : twoTo n 0 = List.replicate n.ends.length 0 := by
  unfold twoTo
  apply List.ext_getElem?
  intro i
  rw [List.getElem?_map, List.getElem?_replicate]
  by_cases h : i < n.ends.length
  · rw [List.getElem?_range h, if_pos h]; rfl
  · rw [List.getElem?_eq_none (by simpa using h), if_neg h]; rfl
theorem twoTo_end (n : Net) : twoTo n n.ends.length = twoB n := by
  unfold twoTo twoB
  apply List.map_congr_left
  intro v hv
  rw [if_pos (List.mem_range.1 hv)]
theorem twoTo_set {n : Net} {k : Nat} (hk : k < n.ends.length) : (twoTo n k).set k (twoAt n k) = twoTo n (k + 1) := by
  apply List.ext_getElem?
  intro i
  unfold twoTo
  rw [List.getElem?_set]
  by_cases h : k = i
  · subst h
    rw [if_pos rfl, List.length_map, List.length_range, if_pos hk, List.getElem?_map, List.getElem?_range hk]
    simp
  · rw [if_neg h, List.getElem?_map, List.getElem?_map]
    by_cases h2 : i < n.ends.length
    · rw [List.getElem?_range h2]
      simp only [Option.map_some, Option.some.injEq]
      by_cases h3 : i < k
      · rw [if_pos h3, if_pos (by omega)]
      · rw [if_neg h3, if_neg (by omega)]
    · rw [List.getElem?_eq_none (by simpa using h2)]; rfl
def twoNo (n : Net) (k : Nat) : Prop := ∀ v, v < k → (bsee n (v : Int)).any (clashV n v) = false
theorem twoNo_end {n : Net} (hn : netOk n = true) (h : twoNo n n.ends.length) : bipB n = true := by
  rw [bip_ports hn, List.all_eq_true]
  intro v hv
  rw [h v (List.mem_range.1 hv)]; rfl
theorem twoNo_hit {n : Net} (hn : netOk n = true) {v : Nat} (hv : v < n.ends.length) {x : Int} (hx : x ∈ bsee n (v : Int)) (hc : clashV n v x = true) : bipB n = false := by
  rw [bip_ports hn, Bool.eq_false_iff]
  intro h
  have := List.all_eq_true.1 h v (List.mem_range.2 hv)
  rw [List.any_eq_true.2 ⟨x, hx, hc⟩] at this
  cases this
set_option maxRecDepth 100000 in
set_option maxHeartbeats 8000000 in
theorem meTwo_any (ve vi vn : Value) (n : Net) (w : World) (h : NetIn w ve vi vn n) (hn : netOk n = true) :
    Calls Tryz.prog 84 #[.agg #[ve, vi, vn]] w fun e w' => ∃ u, e = .returned (.tuple #[u, .bool (bipB n)]) ∧ Own w' w.heap.size u (if bipB n = true then twoB n else []) ∧ Below w.heap.size w w' := by
  have hnl := netOk_len hn
  have hnl1 := hnl.1
  have hnl2 := hnl.2
  have Hn := Lib.hid hn
  obtain ⟨w0, hw0⟩ : ∃ w0, w0 = (w).alloc (.cells #[ve, vi, vn] 27) := ⟨_, rfl⟩
  have hb0 : Below w.heap.size w w0 := by rw [hw0]; exact ((Below.refl _ _).alloc (by simp) _)
  have H := Lib.hid (h.keep hb0)
  obtain ⟨h1, h2, h3⟩ := h.keep hb0
  obtain ⟨A, c, rfl, hlc, hm, hA⟩ := h1
  obtain ⟨A2, c2, rfl, _, hm2, _⟩ := h2
  obtain ⟨A3, c3, rfl, _, hm3, _⟩ := h3
  unfold maxLen at hm hm2 hm3
  have p00 : ∀ W, Since w0 W → W.cell? ⟨w.heap.size, 0, none⟩ = some (.slice A n.ends.length c) := have_cell (by rw [hw0]; simp)
  have p01 : ∀ W, Since w0 W → W.cell? ⟨w.heap.size, 1, none⟩ = some (.slice A2 n.ids.length c2) := have_cell (by rw [hw0]; simp)
  have p02 : ∀ W, Since w0 W → W.cell? ⟨w.heap.size, 2, none⟩ = some (.slice A3 n.inputs.length c3) := have_cell (by rw [hw0]; simp)
  have Hb0 := Lib.hid hb0
  have Hw0 := Lib.hid hw0
  have HA := Lib.hid hA
  clear hA h
  clear hb0 hw0
  have hs0 : Since w0 w0 := since_refl _
  obtain ⟨rb, hrb⟩ : ∃ rb, bipB n = rb := ⟨_, rfl⟩
  have Hrb := Lib.hid hrb
  rw [hrb]
  clear hn hnl hrb
  go_enter Tryz.func84, Tryz.ntmps84
  go_upto_region 1 with (fail)
  rw [← Hw0.out]
  go_wp2_with (at_make; refine mk_ints _ rfl _ _ rfl _ _ n.ends.length rfl rfl rfl rfl (by omega) ?_; intro w1 ho1 hb1 hz1; have hs1 : Since w0 w1 := hb1)
  obtain ⟨g, hg⟩ : ∃ g, g = w0.heap.size := ⟨_, rfl⟩
  rw [← hg] at ho1 hz1 ⊢
  have Hs1 := Lib.hid hs1
  have hgl : Hid (w0.heap.size ≤ g) := by rw [hg]; exact Nat.le_refl _
  have hgw : Hid (g < w1.heap.size) := by show _ < _; omega
  have Ho1 : Hid (Own w1 w0.heap.size (.slice (some ⟨g, 0, none⟩) n.ends.length n.ends.length) (twoTo n 0)) := by rw [twoTo_zero]; exact ho1.mono hgl.out
  clear ho1 hb1 hz1 hs0 hg
  go_wp2_with fail
  refine (meParts_any _ _ _ n w1 (H.out.keep Hs1.out.below) Hn.out).mono ?_
  rintro e w2 ⟨u2, rfl, ho2, hb2⟩
  obtain ⟨gc, cc, rfl⟩ : ∃ gc cc, u2 = .slice (some ⟨gc, 0, none⟩) n.ends.length cc := by
    obtain ⟨x, hx⟩ := getx (compB n) 0 (by simp [compB]; omega)
    obtain ⟨g, c, h1, -⟩ := own_row ho2 hx
    exact ⟨g, c, by rw [h1]; simp [compB]⟩
  have Hne : Hid (g ≠ gc) := by
    obtain ⟨x, hx⟩ := getx (compB n) 0 (by simp [compB]; omega)
    obtain ⟨g', c, h1, -, h3⟩ := own_row ho2 hx
    simp only [Value.slice.injEq, Option.some.injEq, Addr.mk.injEq] at h1
    have := hgw.out
    show _ ≠ _
    omega
  have Ho2 := Lib.hid ho2
  have Hs2 := Lib.hid (Hs1.out.after hb2)
  have Ho12 := Lib.hid (Ho1.out.since hb2)
  clear ho2 hb2 hs1
  go_wp2
  go_loopw [18] (fun i wr => ∃ k : Nat, k ≤ n.ends.length ∧ i = .int .i64 k ∧ Own wr w0.heap.size (.slice (some ⟨g, 0, none⟩) n.ends.length n.ends.length) (twoTo n k) ∧ Own wr w1.heap.size (.slice (some ⟨gc, 0, none⟩) n.ends.length cc) (compB n) ∧ Since w0 wr) (fun i _ => n.ends.length - (intOf i).toNat)
  case atStart => exact ⟨0, Nat.zero_le _, rfl, Ho12.out, Ho2.out, Hs2.out⟩
  case round =>
    obtain ⟨k, hk, rfl, ho, hc, hsr⟩ := hrel
    have Ho := Lib.hid ho
    have Hc := Lib.hid hc
    have Hs := Lib.hid hsr
    clear ho hc hsr
    by_cases hlt : k < n.ends.length
    · have m3 : IntKind.i64.wrap ((k : Int) + 1) = (k : Int) + 1 := wr64 _ (by omega) (by omega)
      obtain ⟨p, hp⟩ : ∃ p, p = leastB n k := ⟨_, rfl⟩
      have hpl : p < n.ends.length := by rw [hp]; exact least_lt Hn.out hlt
      have c1 := have_cell (Hc.out.cell (show (compB n)[k]? = some (p : Int) by rw [hp]; unfold compB; rw [List.getElem?_map, List.getElem?_range hlt]; rfl))
      have Hp := Lib.hid hp
      have q00 := lift_cell p00 Hs.out
      have q01 := lift_cell p01 Hs.out
      have q02 := lift_cell p02 Hs.out
      obtain ⟨y, hy⟩ : ∃ y, y = twoAt n k := ⟨_, rfl⟩
      have Hy := Lib.hid hy
      clear hp hy
      go_upto_region 6 with (fail)
      refine wp_region_chain (w0 := wr) 12 [false, false, false, false, false, false, false, true, false, true, true, true] (by kernel_rfl) (by kernel_rfl) (since_refl _) ?_
      simp only [selF, selT, List.take_succ_cons, List.take_zero, List.drop_succ_cons, List.drop_zero]
      refine pflow_val (v := ?_) rfl ?_ ?_; rotate_left; (intro W hW; go_simp; with_reducible rfl)
      simp only [Act.put, List.setIfInBounds_toArray, List.set_cons_succ, List.set_cons_zero]
      refine pflow_val (v := ?_) rfl ?_ ?_; rotate_left; (intro W hW; go_simp; with_reducible rfl)
      simp only [Act.put, List.setIfInBounds_toArray, List.set_cons_succ, List.set_cons_zero]
      refine pflow_val (v := ?_) rfl ?_ ?_; rotate_left; (intro W hW; go_simp; with_reducible rfl)
      simp only [Act.put, List.setIfInBounds_toArray, List.set_cons_succ, List.set_cons_zero]
      refine pflow_val (v := ?_) rfl ?_ ?_; rotate_left; (intro W hW; go_simp; with_reducible rfl)
      simp only [Act.put, List.setIfInBounds_toArray, List.set_cons_succ, List.set_cons_zero]
      refine pflow_val (v := ?_) rfl ?_ ?_; rotate_left; (intro W hW; go_simp; with_reducible rfl)
      simp only [Act.put, List.setIfInBounds_toArray, List.set_cons_succ, List.set_cons_zero]
      refine pflow_val (v := ?_) rfl ?_ ?_; rotate_left; (intro W hW; go_simp; with_reducible rfl)
      simp only [Act.put, List.setIfInBounds_toArray, List.set_cons_succ, List.set_cons_zero]
      refine pflow_val (v := ?_) rfl ?_ ?_; rotate_left; (intro W hW; go_simp; with_reducible rfl)
      simp only [Act.put, List.setIfInBounds_toArray, List.set_cons_succ, List.set_cons_zero]
      refine pflow_val (v := ?_) rfl ?_ ?_; rotate_left; (intro W hW; go_simp; with_reducible rfl)
      simp only [Act.put, List.setIfInBounds_toArray, List.set_cons_succ, List.set_cons_zero]
      intro W hW
      refine Or.inl ⟨rfl, ?_⟩
      go_simp
      (with_reducible refine (meFrom_any _ _ _ n p W (H.out.keep (Hs.out.after hW).below) Hn.out hpl).mono ?_)
      rintro e W' ⟨u3, rfl, ho3, hb3⟩
      refine ⟨_, rfl, hW.trans hb3, ?_⟩
      replace hW := hW.trans hb3
      obtain ⟨gd, cd, d, rfl, hd, cd1, hgd⟩ := dist_row Hn.out hpl hlt ho3
      have hmod : Int.tmod d 2 = y := by rw [Hy.out]; exact two_mod Hn.out hlt (by rw [← Hp.out]; exact hd)
      have hd0 : 0 ≤ d := by have h9 := (dist_own Hn.out hlt).1; rw [← Hp.out, getD_of hd] at h9; exact h9
      have hmod2 : d % 2 = y := by rw [← hmod]; exact (Int.tmod_eq_emod_of_nonneg hd0).symm
      clear ho3 hb3 hd hd0 hgd
      (try simp only [Act.put, List.setIfInBounds_toArray, List.set_cons_succ, List.set_cons_zero])
      refine tflow_val (v := ?_) rfl ?_ hW ?_; rotate_left; (go_simp; with_reducible rfl)
      simp only [Act.put, List.setIfInBounds_toArray, List.set_cons_succ, List.set_cons_zero]
      refine tflow_val (v := ?_) rfl ?_ hW ?_; rotate_left; (go_simp; with_reducible rfl)
      simp only [Act.put, List.setIfInBounds_toArray, List.set_cons_succ, List.set_cons_zero]
      refine tflow_val (v := ?_) rfl ?_ hW ?_; rotate_left; (go_simp; with_reducible rfl)
      simp only [Act.put, List.setIfInBounds_toArray, List.set_cons_succ, List.set_cons_zero]
      simp only [TFlow]
      have HW := Lib.hid hW
      have HoW := Lib.hid (Ho.out.since hW)
      have HcW := Lib.hid (Hc.out.since hW)
      obtain ⟨z, hz⟩ := getx (twoTo n k) k (by rw [twoTo_len]; exact hlt)
      have cz := HoW.out.cell hz
      have fz := HoW.out.free k
      clear hW c1 q00 q01 q02 cd1 hz
      go_wp2
      go_roundw
      case rel => exact ⟨k + 1, by omega, by first | rfl | go_num, by rw [← twoTo_set hlt, ← Hy.out]; exact HoW.out.set (k := k) y, own_oth HcW.out (by simp [Value.ownBlock]; exact fun e => Hne.out e.symm) _, Below.setCell (Hs.out.after HW.out) hgl.out _⟩
      case measure => simp [intOf]; omega
    · obtain rfl : k = n.ends.length := by omega
      have HT : Hid (Own wr w0.heap.size (.slice (some ⟨g, 0, none⟩) n.ends.length n.ends.length) (twoB n)) := by rw [← twoTo_end]; exact Ho.out
      clear hk hlt Ho Hc
      go_wp2
      go_loopw [37] (fun i wq => ∃ j : Nat, j ≤ n.ends.length ∧ i = .int .i64 j ∧ twoNo n j ∧ Since wr wq) (fun i _ => n.ends.length - (intOf i).toNat)
      case atStart => exact ⟨0, Nat.zero_le _, rfl, fun v hv => by omega, since_refl _⟩
      case round =>
        obtain ⟨j, hj, rfl, hnc, hsq⟩ := hrel
        have Hnc := Lib.hid hnc
        have Hsq := Lib.hid hsq
        clear hnc hsq
        by_cases hlj : j < n.ends.length
        · obtain ⟨es, hes⟩ := getx n.ends j hlj
          have hrow := netOk_row Hn.out hes
          have hes6 := hrow.1
          have Hrow := Lib.hid hrow.2
          have Hs0q := Lib.hid (Hs.out.after Hsq.out)
          have hs0q := Hs0q.out
          have Hes := Lib.hid hes
          have hbs : Hid (bsee n (j : Int) = es.map fun e => e.1) := by show _ = _; unfold bsee; rw [Int.toNat_natCast, getD_of hes]
          clear hes hrow
          go_wp2_with fail
          refine (neNear_any _ _ _ n j es wr (H.out.keep Hs0q.out.below) Hes.out (by omega)).mono ?_
          rintro e w5 ⟨u5, rfl, ho5, hb5⟩
          obtain ⟨A5, c5, rfl⟩ : ∃ A c, u5 = .slice A es.length c := by
            rcases ho5.cases with ⟨rfl, e1⟩ | ⟨gd, cd, rfl, hg1, hg2⟩
            · have := congrArg List.length e1; rw [List.length_map] at this; exact ⟨none, 0, by rw [this]; rfl⟩
            · exact ⟨_, cd, by rw [List.length_map]⟩
          have Ho5 := Lib.hid ho5
          have Hs5 := Lib.hid (Hsq.out.after hb5)
          clear ho5 hb5 hs0q
          go_wp2
          go_loopw [44] (fun i wx => ∃ t : Nat, t ≤ es.length ∧ i = .int .i64 t ∧ ((es.take t).map fun e => e.1).any (clashV n j) = false ∧ Since w5 wx) (fun i _ => es.length - (intOf i).toNat)
          case atStart => exact ⟨0, Nat.zero_le _, rfl, rfl, since_refl _⟩
          case round =>
            obtain ⟨t, ht, rfl, hnt, hst⟩ := hrel
            have Hnt := Lib.hid hnt
            have Hst := Lib.hid hst
            clear hnt hst
            by_cases hlt2 : t < es.length
            · obtain ⟨x, hx⟩ := getx es t hlt2
              have hxr := Hrow.out x (List.mem_of_getElem? hx)
              obtain ⟨k, hk⟩ := Int.eq_ofNat_of_zero_le hxr.1
              have hkl : k < n.ends.length := by omega
              have Hx := Lib.hid hx
              have hb : (es.map fun e => e.1)[t]? = some (k : Int) := by rw [List.getElem?_map, hx, ← hk]; rfl
              obtain ⟨gz, cz, hz1, hz2, hz3⟩ := own_row Ho5.out hb
              rw [List.length_map] at hz1
              simp only [Value.slice.injEq, true_and] at hz1
              obtain ⟨rfl, rfl⟩ := hz1
              have r0 := have_cell (bc Hst.out hz2)
              have HTq := Lib.hid (HT.out.since (Hs5.out.after Hst.out))
              obtain ⟨a1, ha1⟩ : ∃ a, twoAt n j = a := ⟨_, rfl⟩
              obtain ⟨a2, ha2⟩ : ∃ a, twoAt n k = a := ⟨_, rfl⟩
              have t1 := have_cell (HTq.out.cell (twoB_get hlj))
              have t2 := have_cell (HTq.out.cell (twoB_get hkl))
              have Hcl : Hid (clashV n j x.1 = (a1 == a2)) := by show _ = _; unfold clashV; rw [hk, ha1]; show (a1 == (twoB n).getD ((k : Int)).toNat 0) = _; rw [Int.toNat_natCast, two_getD hkl, ha2]
              rw [ha1] at t1
              rw [ha2] at t2
              have m2 : IntKind.i64.wrap ((t : Int) + 1) = (t : Int) + 1 := wr64 _ (by omega) (by omega)
              have r1 := r0 wr (since_refl _)
              have Hk := Lib.hid hk
              clear hx hxr hk hb hz2 ha1 ha2
              go_upto_region 14 with (fail)
              refine wp_region_flow 9 (Since wr) (by kernel_rfl) (by kernel_rfl) (by simp) (since_drew (since_refl _)) ?_
              simp only [List.take_succ_cons, List.take_zero, List.drop_succ_cons, List.drop_zero]
              refine flow_val (v := ?_) rfl ?_ ?_; rotate_left; (intro W hW; go_simp; with_reducible rfl)
              simp only [Act.put, List.setIfInBounds_toArray, List.set_cons_succ, List.set_cons_zero]
              refine flow_val (v := ?_) rfl ?_ ?_; rotate_left; (intro W hW; go_simp; with_reducible rfl)
              simp only [Act.put, List.setIfInBounds_toArray, List.set_cons_succ, List.set_cons_zero]
              refine flow_val (v := ?_) rfl ?_ ?_; rotate_left; (intro W hW; go_simp; with_reducible rfl)
              simp only [Act.put, List.setIfInBounds_toArray, List.set_cons_succ, List.set_cons_zero]
              refine flow_val (v := ?_) rfl ?_ ?_; rotate_left; (intro W hW; go_simp; with_reducible rfl)
              simp only [Act.put, List.setIfInBounds_toArray, List.set_cons_succ, List.set_cons_zero]
              refine flow_val (v := ?_) rfl ?_ ?_; rotate_left; (intro W hW; go_simp; with_reducible rfl)
              simp only [Act.put, List.setIfInBounds_toArray, List.set_cons_succ, List.set_cons_zero]
              refine flow_val (v := ?_) rfl ?_ ?_; rotate_left; (intro W hW; go_simp; with_reducible rfl)
              simp only [Act.put, List.setIfInBounds_toArray, List.set_cons_succ, List.set_cons_zero]
              refine flow_val (v := ?_) rfl ?_ ?_; rotate_left; (intro W hW; go_simp; with_reducible rfl)
              simp only [Act.put, List.setIfInBounds_toArray, List.set_cons_succ, List.set_cons_zero]
              refine flow_val (v := ?_) rfl ?_ ?_; rotate_left; (intro W hW; go_simp; with_reducible rfl)
              simp only [Act.put, List.setIfInBounds_toArray, List.set_cons_succ, List.set_cons_zero]
              refine flow_val (v := ?_) rfl ?_ ?_; rotate_left; (intro W hW; go_simp; with_reducible rfl)
              simp only [Act.put, List.setIfInBounds_toArray, List.set_cons_succ, List.set_cons_zero]
              intro W hW
              have HW := Lib.hid (Hst.out.after hW)
              clear hW t1 t2 r0 r1
              cases hg : (a1 == a2)
              · have Hno : Hid (((es.take (t + 1)).map fun e => e.1).any (clashV n j) = false) := by
                  show _ = _
                  rw [take_snoc Hx.out, List.map_append, List.any_append, Hnt.out]
                  simp only [List.map_cons, List.map_nil, List.any_cons, List.any_nil, Hcl.out, hg, Bool.or_false]
                go_wp2
                go_roundw
                case rel => exact ⟨t + 1, by omega, by first | rfl | go_num, Hno.out, HW.out⟩
                case measure => simp [intOf]; omega
              · have hbf := twoNo_hit Hn.out hlj (x := x.1) (by rw [hbs.out]; exact List.mem_map_of_mem (List.mem_of_getElem? Hx.out)) (by rw [Hcl.out]; exact hg)
                rw [Hrb.out] at hbf
                subst hbf
                go_wp2
                go_ret2
                exact ⟨.slice none 0 0, rfl, by simpa using own_nil _ _, Since.after Hb0.out (Hs.out.after (Hs5.out.after HW.out))⟩
            · obtain rfl : t = es.length := by omega
              have m2 : IntKind.i64.wrap ((j : Int) + 1) = (j : Int) + 1 := wr64 _ (by omega) (by omega)
              have Hno : Hid (twoNo n (j + 1)) := fun v hv => by
                rcases Nat.lt_or_ge v j with h1 | h1
                · exact Hnc.out v h1
                · rw [show v = j by omega, hbs.out]
                  have := Hnt.out
                  rwa [List.take_length] at this
              go_wp2
              go_roundw
              case rel => exact ⟨j + 1, by omega, by first | rfl | go_num, Hno.out, Hs5.out.after Hst.out⟩
              case measure => simp [intOf]; omega
        · obtain rfl : j = n.ends.length := by omega
          have hbt := twoNo_end Hn.out Hnc.out
          rw [Hrb.out] at hbt
          subst hbt
          go_wp2
          go_ret2
          refine ⟨.slice (some ⟨g, 0, none⟩) n.ends.length n.ends.length, rfl, ?_, Since.after Hb0.out (Hs.out.after Hsq.out)⟩
          exact (HT.out.since Hsq.out).mono Hb0.out.size
end Go.Proofs.YtfkmkpamdlhbgaaGreat
namespace Go.Proofs.YtfkmkpamdlhbgaaGreat
open Go.RowKit
/-! stubs, numbers of nodes, leaders: the reference -/
def stubRow (n : Net) (v k : Nat) : Bool := (List.range k).any fun i => decide (portF n v i = ((v : Int), (i : Int)))
def stubTo (n : Net) (k : Nat) : Bool := (List.range k).any fun v => stubRow n v (n.ends.getD v []).length
theorem any_hit {k v : Nat} {f : Nat → Bool} (hv : v < k) (h : f v = true) : (List.range k).any f = true := List.any_eq_true.2 ⟨v, List.mem_range.2 hv, h⟩
set_option maxRecDepth 100000 in
set_option maxHeartbeats 8000000 in
theorem meStub_any (ve vi vn : Value) (n : Net) (w : World) (h : NetIn w ve vi vn n) (hn : netOk n = true) :
    Calls Tryz.prog 156 #[.agg #[ve, vi, vn]] w fun e w' => e = .returned (.bool (stubP n)) ∧ Below w.heap.size w w' := by
  have hnl := netOk_len hn
  have hnl1 := hnl.1
  have hnl2 := hnl.2
  have Hn := Lib.hid hn
  obtain ⟨w0, hw0⟩ : ∃ w0, w0 = (w).alloc (.cells #[ve, vi, vn] 27) := ⟨_, rfl⟩
  have hb0 : Below w.heap.size w w0 := by rw [hw0]; exact ((Below.refl _ _).alloc (by simp) _)
  have H := Lib.hid (h.keep hb0)
  obtain ⟨h1, h2, h3⟩ := h.keep hb0
  obtain ⟨A, c, rfl, hlc, hm, hA⟩ := h1
  obtain ⟨A2, c2, rfl, _, hm2, _⟩ := h2
  obtain ⟨A3, c3, rfl, _, hm3, _⟩ := h3
  unfold maxLen at hm hm2 hm3
  have p00 : ∀ W, Since w0 W → W.cell? ⟨w.heap.size, 0, none⟩ = some (.slice A n.ends.length c) := have_cell (by rw [hw0]; simp)
  have p01 : ∀ W, Since w0 W → W.cell? ⟨w.heap.size, 1, none⟩ = some (.slice A2 n.ids.length c2) := have_cell (by rw [hw0]; simp)
  have p02 : ∀ W, Since w0 W → W.cell? ⟨w.heap.size, 2, none⟩ = some (.slice A3 n.inputs.length c3) := have_cell (by rw [hw0]; simp)
  have Hb0 := Lib.hid hb0
  have Hw0 := Lib.hid hw0
  have HA := Lib.hid hA
  clear hA h
  clear hb0 hw0
  have hs0 : Since w0 w0 := since_refl _
  obtain ⟨rb, hrb⟩ : ∃ rb, stubP n = rb := ⟨_, rfl⟩
  have Hrb : Hid (stubTo n n.ends.length = rb) := hrb
  rw [hrb]
  clear hn hnl hrb
  go_enter Tryz.func156, Tryz.ntmps156
  go_upto_region 1 with (fail)
  rw [← Hw0.out]
  go_wp2
  go_loopw [9] (fun i wr => ∃ k : Nat, k ≤ n.ends.length ∧ i = .int .i64 k ∧ stubTo n k = false ∧ Since w0 wr) (fun i _ => n.ends.length - (intOf i).toNat)
  case atStart => exact ⟨0, Nat.zero_le _, rfl, rfl, hs0⟩
  case round =>
    obtain ⟨k, hk, rfl, hno, hsr⟩ := hrel
    have Hno := Lib.hid hno
    have Hs := Lib.hid hsr
    clear hs0 hno
    by_cases hlt : k < n.ends.length
    · obtain ⟨es, hes⟩ := getx n.ends k hlt
      have hrow := netOk_row Hn.out hes
      have hes6 := hrow.1
      have hgd : n.ends.getD k [] = es := getD_of hes
      obtain ⟨b, offr, cr, ur, hA1, hkr, hc1, hro⟩ := row_at H.out.es hes
      cases hA1
      obtain ⟨A1, z1, rfl, hz1, hz2, hA1⟩ := hro
      unfold maxLen at hz2
      have HA1 := Lib.hid hA1
      have r1 := lift_cell (have_cell hc1) Hs.out
      have q5 := r1 wr (since_refl _)
      have Hgd := Lib.hid hgd
      have m4 : IntKind.i64.wrap ((k : Int) + 1) = (k : Int) + 1 := wr64 _ (by omega) (by omega)
      clear hes hrow hc1 hA1 hgd
      go_wp2
      go_loopw [18] (fun i wq => ∃ j : Nat, j ≤ es.length ∧ i = .int .i64 j ∧ stubRow n k j = false ∧ Since w0 wq) (fun i _ => es.length - (intOf i).toNat)
      case atStart => exact ⟨0, Nat.zero_le _, rfl, rfl, Hs.out⟩
      case round =>
        obtain ⟨j, hj, rfl, hno2, hsq⟩ := hrel
        have Hno2 := Lib.hid hno2
        have Hsq := Lib.hid hsq
        clear hno2
        by_cases hlj : j < es.length
        · obtain ⟨⟨x1, x2⟩, hx⟩ := getx es j hlj
          obtain ⟨b1, off1, rfl, hd1, hd2⟩ := HA1.out j _ hx
          have t1 := have_cell hd1 wr Hsq.out
          have t2 := have_cell hd2 wr Hsq.out
          have hpf : portF n k j = (x1, x2) := by unfold portF; rw [Hgd.out]; exact getD_of hx
          have m3 : IntKind.i64.wrap ((j : Int) + 1) = (j : Int) + 1 := wr64 _ (by omega) (by omega)
          obtain ⟨w8, hw8⟩ : ∃ w8, w8 = wr.alloc (.cells #[.int .i64 x1, .int .i64 x2] 62) := ⟨_, rfl⟩
          have hs8 : Since w0 w8 := by rw [hw8]; exact since_alloc _ Hsq.out
          have Hw8 := Lib.hid hw8
          have d0 : ∀ W, Since w8 W → W.cell? ⟨wr.heap.size, 0, none⟩ = some (.int .i64 x1) := have_cell (by rw [hw8]; simp)
          have d1 : ∀ W, Since w8 W → W.cell? ⟨wr.heap.size, 1, none⟩ = some (.int .i64 x2) := have_cell (by rw [hw8]; simp)
          have d00 := d0 w8 (since_refl _)
          have d11 := d1 w8 (since_refl _)
          have Hs8 := Lib.hid hs8
          have Hpf := Lib.hid hpf
          clear hx hd1 hd2 hw8 hpf d0 d1
          go_upto_region 7 with (fail)
          rw [← Hw8.out]
          clear t1 t2
          cases hg : eqE (x1, x2) ((k : Int), (j : Int))
          · have Hn2 : Hid (stubRow n k (j + 1) = false) := by
              show _ = _
              unfold stubRow
              rw [List.range_succ, List.any_append, show (List.range j).any (fun i => decide (portF n k i = ((k : Int), (i : Int)))) = false from Hno2.out]
              simp only [List.any_cons, List.any_nil, Bool.or_false, Bool.false_or, Hpf.out]
              exact hg
            go_wp2
            go_roundw
            case rel => exact ⟨j + 1, by omega, by first | rfl | go_num, Hn2.out, Hs8.out⟩
            case measure => simp [intOf]; omega
          · have hb : rb = true := by
              rw [← Hrb.out]
              refine any_hit hlt (any_hit (v := j) (by rw [Hgd.out]; exact hlj) ?_)
              rw [Hpf.out]
              exact hg
            subst hb
            go_wp2
            go_ret
            exact ⟨rfl, Since.after Hb0.out Hs8.out⟩
        · obtain rfl : j = es.length := by omega
          have Hn3 : Hid (stubTo n (k + 1) = false) := by
            show _ = _
            unfold stubTo
            rw [List.range_succ, List.any_append, show (List.range k).any (fun v => stubRow n v (n.ends.getD v []).length) = false from Hno.out]
            simp only [List.any_cons, List.any_nil, Bool.or_false, Bool.false_or]
            rw [Hgd.out]
            exact Hno2.out
          go_wp2
          go_roundw
          case rel => exact ⟨k + 1, by omega, by first | rfl | go_num, Hn3.out, Hsq.out⟩
          case measure => simp [intOf]; omega
    · obtain rfl : k = n.ends.length := by omega
      have hb : rb = false := by rw [← Hrb.out]; exact Hno.out
      subst hb
      go_wp2
      go_ret
      exact ⟨rfl, Since.after Hb0.out Hs.out⟩
/-- the places of a number in a row -/
def placesTo (xs : List Int) (x : Int) (k : Nat) : List Int := ((List.range k).filter fun i => decide (xs.getD i 0 = x)).map Int.ofNat
theorem placesTo_succ (xs : List Int) (x : Int) (k : Nat) : placesTo xs x (k + 1) = placesTo xs x k ++ (if xs.getD k 0 = x then [(k : Int)] else []) := by
  unfold placesTo
  rw [List.range_succ, List.filter_append, List.map_append]
  congr 1
  by_cases h : xs.getD k 0 = x
  · rw [if_pos h, List.filter_cons_of_pos (by simpa using h)]; rfl
  · rw [if_neg h, List.filter_cons_of_neg (by simpa using h)]; rfl
theorem placesTo_len (xs : List Int) (x : Int) (k : Nat) : (placesTo xs x k).length ≤ k := by
  unfold placesTo
  rw [List.length_map]
  exact Nat.le_trans (List.length_filter_le _ _) (by simp)
set_option maxRecDepth 100000 in
set_option maxHeartbeats 8000000 in
theorem deNodes_any (v : Value) (xs : List Int) (x : Int) (w : World) (h : IntS w v xs) (hl : xs.length ≤ 1000000) :
    Calls Tryz.prog 133 #[v, .int .i64 x] w fun e w' => ∃ u, e = .returned u ∧ Own w' w.heap.size u (placesTo xs x xs.length) ∧ Below w.heap.size w w' := by
  have HX := Lib.hid h
  obtain ⟨A, c, rfl, hlc, hm, hA⟩ := h
  unfold maxLen at hm
  have HA := Lib.hid hA
  clear hA
  go_enter Tryz.func133, Tryz.ntmps133
  go_wp2
  go_loopw [5, 10] (fun u i wr => ∃ k : Nat, k ≤ xs.length ∧ i = .int .i64 k ∧ Own wr w.heap.size u (placesTo xs x k) ∧ Since w wr) (fun _ i _ => xs.length - (intOf i).toNat)
  case atStart => exact ⟨0, Nat.zero_le _, rfl, own_nil _ _, since_refl _⟩
  case round =>
    obtain ⟨k, hk, rfl, ho, hsr⟩ := hrel
    have Ho := Lib.hid ho
    have Hs := Lib.hid hsr
    clear ho hsr
    by_cases hlt : k < xs.length
    · obtain ⟨y, hy⟩ := getx xs k hlt
      obtain ⟨b, off, rfl, hc⟩ := HA.out k y hy
      have d0 := Hs.out.cell hc
      have m3 : IntKind.i64.wrap ((k : Int) + 1) = (k : Int) + 1 := wr64 _ (by omega) (by omega)
      have hn1 := placesTo_succ xs x k
      rw [getD_of hy] at hn1
      have Hlen : Hid ((placesTo xs x k).length + 1 ≤ 17592186044416) := by show _ ≤ _; have := placesTo_len xs x k; omega
      clear hy hc
      by_cases he : y = x
      · subst he
        rw [if_pos rfl] at hn1
        have Hn1 := Lib.hid hn1
        clear hn1
        go_wp2_with (at_builtin; refine app_int_s rfl _ _ rfl rfl (Ho.out.since (since_alloc _ (since_refl _))) wr.heap.size k rfl (by simp [go_sem]) Hlen.out (since_alloc _ Hs.out) ?_; intro g cc w3 ho3 hs3)
        have Ho3 := Lib.hid ho3
        have Hs3 := Lib.hid hs3
        clear ho3 hs3
        go_wp2
        go_roundw
        case rel => exact ⟨k + 1, by omega, by first | rfl | go_num, by rw [Hn1.out]; have := Ho3.out; simpa using this, Hs3.out⟩
        case measure => simp [intOf]; omega
      · have hbe : (y == x) = false := by simpa using he
        rw [if_neg he, List.append_nil] at hn1
        have Hn1 := Lib.hid hn1
        clear hn1 he
        go_wp2
        go_roundw
        case rel => exact ⟨k + 1, by omega, by first | rfl | go_num, by rw [Hn1.out]; exact Ho.out, Hs.out⟩
        case measure => simp [intOf]; omega
    · obtain rfl : k = xs.length := by omega
      clear hk hlt
      go_wp2
      go_ret
      exact ⟨_, rfl, Ho.out, Hs.out⟩
theorem netOk_inq {n : Net} (h : netOk n = true) : n.inputs.length = n.ends.length ∧ ∀ x ∈ n.inputs, 0 ≤ x ∧ x ≤ 9 := by
  unfold netOk inputsB at h
  simp only [Bool.and_eq_true, List.all_eq_true, beq_iff_eq] at h
  exact ⟨by omega, fun x hx => inB_iff.1 (h.1.2.2 x hx)⟩
def leadTo (n : Net) (k : Nat) : Prop := ∀ v, v < k → oneLead n v = true
theorem leadTo_end {n : Net} (h : leadTo n n.ends.length) : leadAll n = true := by
  unfold leadAll
  rw [List.all_eq_true]
  exact fun v hv => h v (List.mem_range.1 hv)
set_option maxRecDepth 100000 in
set_option maxHeartbeats 8000000 in
theorem plOnce_any (ve vi vn : Value) (n : Net) (w : World) (h : NetIn w ve vi vn n) (hn : netOk n = true) :
    Calls Tryz.prog 87 #[.agg #[ve, vi, vn]] w fun e w' => ∃ u, e = .returned (.tuple #[u, .bool (leadAll n)]) ∧ Own w' w.heap.size u (if leadAll n = true then leadL n n.ends.length else []) ∧ Below w.heap.size w w' := by
  have hnl := netOk_len hn
  have hnl1 := hnl.1
  have hnl2 := hnl.2
  have hin := netOk_inq hn
  have Hil := Lib.hid hin.1
  have Hn := Lib.hid hn
  obtain ⟨w0, hw0⟩ : ∃ w0, w0 = (w).alloc (.cells #[ve, vi, vn] 27) := ⟨_, rfl⟩
  have hb0 : Below w.heap.size w w0 := by rw [hw0]; exact ((Below.refl _ _).alloc (by simp) _)
  have H := Lib.hid (h.keep hb0)
  obtain ⟨h1, h2, h3⟩ := h.keep hb0
  obtain ⟨A, c, rfl, hlc, hm, hA⟩ := h1
  obtain ⟨A2, c2, rfl, _, hm2, _⟩ := h2
  obtain ⟨A3, c3, rfl, _, hm3, _⟩ := h3
  unfold maxLen at hm hm2 hm3
  have p00 : ∀ W, Since w0 W → W.cell? ⟨w.heap.size, 0, none⟩ = some (.slice A n.ends.length c) := have_cell (by rw [hw0]; simp)
  have p01 : ∀ W, Since w0 W → W.cell? ⟨w.heap.size, 1, none⟩ = some (.slice A2 n.ids.length c2) := have_cell (by rw [hw0]; simp)
  have p02 : ∀ W, Since w0 W → W.cell? ⟨w.heap.size, 2, none⟩ = some (.slice A3 n.inputs.length c3) := have_cell (by rw [hw0]; simp)
  have Hb0 := Lib.hid hb0
  have Hw0 := Lib.hid hw0
  have HA := Lib.hid hA
  clear hA h
  clear hb0 hw0
  have hs0 : Since w0 w0 := since_refl _
  obtain ⟨rb, hrb⟩ : ∃ rb, leadAll n = rb := ⟨_, rfl⟩
  have Hrb := Lib.hid hrb
  rw [hrb]
  clear hn hnl hrb hin
  go_enter Tryz.func87, Tryz.ntmps87
  go_upto_region 1 with (fail)
  rw [← Hw0.out]
  go_wp2_with fail
  refine (meParts_any _ _ _ n w0 H.out Hn.out).mono ?_
  rintro e w2 ⟨u2, rfl, ho2, hb2⟩
  obtain ⟨gc, cc, rfl⟩ : ∃ gc cc, u2 = .slice (some ⟨gc, 0, none⟩) n.ends.length cc := by
    obtain ⟨x, hx⟩ := getx (compB n) 0 (by simp [compB]; omega)
    obtain ⟨g, c, h1, -⟩ := own_row ho2 hx
    exact ⟨g, c, by rw [h1]; simp [compB]⟩
  have Ho2 := Lib.hid ho2
  have Hs2 : Hid (Since w0 w2) := hb2
  clear ho2 hb2 hs0
  go_wp2
  go_loopw [5, 15] (fun u i wr => ∃ k : Nat, k ≤ n.ends.length ∧ i = .int .i64 k ∧ Own wr w2.heap.size u (leadL n k) ∧ leadTo n k ∧ Since w2 wr) (fun _ i _ => n.ends.length - (intOf i).toNat)
  case atStart => exact ⟨0, Nat.zero_le _, rfl, own_nil _ _, fun v hv => by omega, since_refl _⟩
  case round =>
    obtain ⟨k, hk, rfl, ho, hld, hsr⟩ := hrel
    have Ho := Lib.hid ho
    have Hld := Lib.hid hld
    have Hs := Lib.hid hsr
    clear ho hld hsr
    by_cases hlt : k < n.ends.length
    · have m3 : IntKind.i64.wrap ((k : Int) + 1) = (k : Int) + 1 := wr64 _ (by omega) (by omega)
      obtain ⟨p, hp⟩ : ∃ p, leastB n k = p := ⟨_, rfl⟩
      have c1 := have_cell ((Ho2.out.since Hs.out).cell (show (compB n)[k]? = some (p : Int) by rw [← hp]; unfold compB; rw [List.getElem?_map, List.getElem?_range hlt]; rfl))
      have c1' := c1 wr (since_refl _)
      have Hp := Lib.hid hp
      have Hlen : Hid ((leadL n k).length + 1 ≤ 17592186044416) := by show _ ≤ _; rw [leadL_len]; omega
      have Hn1 := Lib.hid (leadL_succ n k)
      clear hp
      go_wp2
      go_loopw [8, 21] (fun o i wq => ∃ j : Nat, j ≤ n.ends.length ∧ i = .int .i64 j ∧ o = .int .i64 (ownTo n p j) ∧ (onesTo n p j).length ≤ 1 ∧ Since wr wq) (fun _ i _ => n.ends.length - (intOf i).toNat)
      case atStart => exact ⟨0, Nat.zero_le _, rfl, rfl, by simp [onesTo], since_refl _⟩
      case round =>
        obtain ⟨j, hj, rfl, rfl, hone, hsq⟩ := hrel
        have Hone := Lib.hid hone
        have Hsq := Lib.hid hsq
        clear hone hsq
        have hrg := ownTo_range n p j
        by_cases hlj : j < n.ends.length
        · have m2 : IntKind.i64.wrap ((j : Int) + 1) = (j : Int) + 1 := wr64 _ (by omega) (by omega)
          obtain ⟨q, hq⟩ : ∃ q, leastB n j = q := ⟨_, rfl⟩
          have Hs2q := Lib.hid (Hs.out.after Hsq.out)
          have e1 := have_cell ((Ho2.out.since Hs2q.out).cell (show (compB n)[j]? = some (q : Int) by rw [← hq]; unfold compB; rw [List.getElem?_map, List.getElem?_range hlj]; rfl))
          have e1' := e1 wr (since_refl _)
          have Hs0q := Lib.hid (Hs2.out.after Hs2q.out)
          obtain ⟨x, hx⟩ := getx n.inputs j (by rw [Hil.out]; omega)
          obtain ⟨A9, c9, e9, -, -, hA9⟩ := H.out.ns
          cases e9
          obtain ⟨b9, off9, e8, hc9⟩ := hA9 j x hx
          subst e8
          have i1 := have_cell (bc Hs0q.out hc9)
          have hji : j < n.inputs.length := by rw [Hil.out]; exact hlj
          have q2 := lift_cell p02 Hs0q.out
          have hne : oneIn n p j = (decide (q = p) && decide (x = 1)) := by unfold oneIn; rw [hq, getD_of hx]
          have Hq := Lib.hid hq
          have Hne := Lib.hid hne
          obtain ⟨ow, how⟩ : ∃ ow, ownTo n p j = ow := ⟨_, rfl⟩
          have How := Lib.hid how
          rw [how] at hrg ⊢
          clear hq hx hA9 hc9 hne how
          go_upto_region 10 with (fail)
          refine wp_region_flow0 11 (Since wr) (since_refl _) ?_
          simp only [List.take_succ_cons, List.take_zero, List.drop_succ_cons, List.drop_zero]
          refine flow_val (v := ?_) rfl ?_ ?_; rotate_left; (intro W hW; go_simp; with_reducible rfl)
          simp only [Act.put, List.setIfInBounds_toArray, List.set_cons_succ, List.set_cons_zero]
          refine flow_val (v := ?_) rfl ?_ ?_; rotate_left; (intro W hW; go_simp; with_reducible rfl)
          simp only [Act.put, List.setIfInBounds_toArray, List.set_cons_succ, List.set_cons_zero]
          refine flow_val (v := ?_) rfl ?_ ?_; rotate_left; (intro W hW; go_simp; with_reducible rfl)
          simp only [Act.put, List.setIfInBounds_toArray, List.set_cons_succ, List.set_cons_zero]
          refine flow_val (v := ?_) rfl ?_ ?_; rotate_left; (intro W hW; go_simp; with_reducible rfl)
          simp only [Act.put, List.setIfInBounds_toArray, List.set_cons_succ, List.set_cons_zero]
          refine flow_gval (v := ?_) rfl rfl ?_ ?_; rotate_left; (intro hb; intro W hW; go_simp; with_reducible rfl)
          simp only [Act.put, List.setIfInBounds_toArray, List.set_cons_succ, List.set_cons_zero]
          refine flow_gval (v := ?_) rfl rfl ?_ ?_; rotate_left; (intro hb; intro W hW; go_simp; with_reducible rfl)
          simp only [Act.put, List.setIfInBounds_toArray, List.set_cons_succ, List.set_cons_zero]
          refine flow_gval (v := ?_) rfl rfl ?_ ?_; rotate_left; (intro hb; intro W hW; go_simp; with_reducible rfl)
          simp only [Act.put, List.setIfInBounds_toArray, List.set_cons_succ, List.set_cons_zero]
          refine flow_gval (v := ?_) rfl rfl ?_ ?_; rotate_left; (intro hb; intro W hW; go_simp; with_reducible rfl)
          simp only [Act.put, List.setIfInBounds_toArray, List.set_cons_succ, List.set_cons_zero]
          refine flow_gval (v := ?_) rfl rfl ?_ ?_; rotate_left; (intro hb; intro W hW; go_simp; with_reducible rfl)
          simp only [Act.put, List.setIfInBounds_toArray, List.set_cons_succ, List.set_cons_zero]
          refine flow_gval (v := ?_) rfl rfl ?_ ?_; rotate_left; (intro hb; intro W hW; go_simp; with_reducible rfl)
          simp only [Act.put, List.setIfInBounds_toArray, List.set_cons_succ, List.set_cons_zero]
          first | refine flow_or rfl rfl ?_ | (refine flow_val (v := ?_) rfl ?_ ?_; rotate_left; (intro W hW; go_simp; with_reducible rfl))
          simp only [Act.put, List.setIfInBounds_toArray, List.set_cons_succ, List.set_cons_zero]
          intro W hW
          have HW := Lib.hid (Hsq.out.after hW)
          clear hW c1 e1 i1 q2 c1' e1'
          cases hg : ((q : Int) != (p : Int) || x != 1)
          · have hin1 : oneIn n p j = true := by
              rw [Hne.out]
              simp only [Bool.or_eq_false_iff, bne_eq_false_iff_eq] at hg
              rw [decide_eq_true (by omega), decide_eq_true hg.2]; rfl
            by_cases h0 : 0 ≤ ow
            · have h01 : (0 ≤ ow) = True := by simp [h0]
              have hno := leadAll_no hlt (by rw [Hp.out]; exact ownTo_two hin1 (by rw [How.out]; omega) hlj)
              rw [Hrb.out] at hno
              subst hno
              clear hin1
              go_wp2
              go_ret2
              exact ⟨.slice none 0 0, rfl, by simpa using own_nil _ _, Since.after Hb0.out (Hs2.out.after (Hs.out.after HW.out))⟩
            · have h01 : (0 ≤ ow) = False := by simp [h0]
              have h02 : ow < 0 := by omega
              obtain ⟨f1, f2⟩ := ownTo_first hin1 (by rw [How.out]; omega)
              have F1 := Lib.hid f1
              have F2 := Lib.hid f2
              clear hin1 f1 f2 h0
              go_wp2
              go_roundw
              case rel => exact ⟨j + 1, by omega, by first | rfl | go_num, by rw [F2.out], by rw [F1.out]; exact Nat.le_refl _, HW.out⟩
              case measure => simp [intOf]; omega
          · have hin1 : oneIn n p j = false := by
              rw [Hne.out, Bool.eq_false_iff]
              intro hc
              simp only [Bool.and_eq_true, decide_eq_true_eq] at hc
              simp only [Bool.or_eq_true, bne_iff_ne, ne_eq] at hg
              omega
            obtain ⟨f1, f2⟩ := ownTo_skip hin1
            have F1 := Lib.hid f1
            have F2 := Lib.hid f2
            clear hin1 f1 f2
            go_wp2
            go_roundw
            case rel => exact ⟨j + 1, by omega, by first | rfl | go_num, by rw [F2.out, How.out], by rw [F1.out]; exact Hone.out, HW.out⟩
            case measure => simp [intOf]; omega
        · obtain rfl : j = n.ends.length := by omega
          have Hs2q := Lib.hid (Hs.out.after Hsq.out)
          obtain ⟨ow, how⟩ : ∃ ow, ownTo n p n.ends.length = ow := ⟨_, rfl⟩
          have Hneg := Lib.hid (ownTo_neg n p n.ends.length)
          rw [how] at hrg Hneg ⊢
          have How : Hid (leadOf n k = ow) := by show _ = _; unfold leadOf; rw [Hp.out]; exact how
          clear how hj hlj
          by_cases h0 : ow < 0
          · have h01 : (ow < 0) = True := by simp [h0]
            have hno := leadAll_no hlt (by rw [Hp.out]; unfold onesOf; rw [Hneg.out.1 h0]; omega)
            rw [Hrb.out] at hno
            subst hno
            go_wp2
            go_ret2
            exact ⟨.slice none 0 0, rfl, by simpa using own_nil _ _, Since.after Hb0.out (Hs2.out.after Hs2q.out)⟩
          · have h01 : (ow < 0) = False := by simp [h0]
            have h02 : 0 ≤ ow := by omega
            have Hl2 : Hid (leadTo n (k + 1)) := fun v hv => by
              rcases Nat.lt_or_ge v k with h1 | h1
              · exact Hld.out v h1
              · rw [show v = k by omega]
                unfold oneLead onesOf
                rw [Hp.out, beq_iff_eq]
                have h5 := Hone.out
                have h6 : (onesTo n p n.ends.length).length ≠ 0 := fun e => h0 (Hneg.out.2 e)
                omega
            have Hox := Lib.hid (Ho.out.since Hsq.out)
            clear h0
            go_wp2_with (at_builtin; refine app_int_s rfl _ _ rfl rfl (Hox.out.since (since_alloc _ (since_refl _))) wr.heap.size ow rfl (by simp [go_sem]) Hlen.out (since_alloc _ Hs2q.out) ?_; intro g cx w4 ho4 hs4)
            have Ho4 := Lib.hid ho4
            have Hs4 := Lib.hid hs4
            clear ho4 hs4
            go_wp2
            go_roundw
            case rel => exact ⟨k + 1, by omega, by first | rfl | go_num, by rw [Hn1.out, How.out]; have := Ho4.out; simpa using this, Hl2.out, Hs4.out⟩
            case measure => simp [intOf]; omega
    · obtain rfl : k = n.ends.length := by omega
      have hbt := leadTo_end Hld.out
      rw [Hrb.out] at hbt
      subst hbt
      go_wp2
      go_ret2
      exact ⟨_, rfl, Ho.out.mono (Nat.le_trans Hb0.out.size Hs2.out.below.size), Since.after Hb0.out (Hs2.out.after Hs.out)⟩
end Go.Proofs.YtfkmkpamdlhbgaaGreat
namespace Go.Proofs.YtfkmkpamdlhbgaaGreat
open Go.RowKit
/-- how many of xs have label c in l -/
def sameC (l : List Int) (c : Int) (xs : List Int) : Nat := (xs.filter fun w => l.getD w.toNat 0 == c).length
theorem sameC_snoc {l : List Int} {c : Int} {xs : List Int} {k : Nat} {y : Int} (h : xs[k]? = some y) : sameC l c (xs.take (k + 1)) = sameC l c (xs.take k) + (if l.getD y.toNat 0 == c then 1 else 0) := by
  unfold sameC
  rw [take_snoc h, List.filter_append, List.length_append]
  congr 1
  cases hh : (l.getD y.toNat 0 == c) <;> simp only [List.filter_cons, List.filter_nil, hh] <;> rfl
theorem sameC_le (l : List Int) (c : Int) (xs : List Int) : sameC l c xs ≤ xs.length := List.length_filter_le _ _
theorem sameC_zero (l : List Int) (c : Int) (es : List (Int × Int)) : (sameC l c (es.map (·.1)) = 0) ↔ hasB (nearB l es) c = false := by
  unfold sameC hasB nearB
  rw [List.length_eq_zero_iff, List.filter_eq_nil_iff]
  rw [Bool.eq_false_iff, ne_eq, List.contains_iff_mem]
  constructor
  · intro h hm
    obtain ⟨e, he, h2⟩ := List.mem_map.1 hm
    exact h e.1 (List.mem_map_of_mem he) (by rw [h2]; exact beq_self_eq_true c)
  · intro h x hx h2
    obtain ⟨e, he, rfl⟩ := List.mem_map.1 hx
    exact h (List.mem_map.2 ⟨e, he, by simpa using h2⟩)
set_option maxHeartbeats 4000000 in
theorem ruSame_any (ve vi vn vl : Value) (n : Net) (l : List Int) (k : Nat) (col : Int) (es : List (Int × Int)) (w : World) (h : NetIn w ve vi vn n) (hl : IntS w vl l) (hes : n.ends[k]? = some es) (hle : es.length ≤ 1000) (hin : ∀ e ∈ es, 0 ≤ e.1 ∧ e.1 < l.length) :
    Calls Tryz.prog 135 #[.agg #[ve, vi, vn], vl, .int .i64 k, .int .i64 col] w fun e w' => e = .returned (.int .i64 (sameC l col (es.map (·.1)))) ∧ Below w.heap.size w w' := by
  obtain ⟨w0, hw0⟩ : ∃ w0, w0 = (w).alloc (.cells #[ve, vi, vn] 27) := ⟨_, rfl⟩
  have hb0 : Below w.heap.size w w0 := by rw [hw0]; exact ((Below.refl _ _).alloc (by simp) _)
  have H := Lib.hid (h.keep hb0)
  obtain ⟨h1, h2, h3⟩ := h.keep hb0
  obtain ⟨A, c, rfl, hlc, hm, hA⟩ := h1
  obtain ⟨A2, c2, rfl, _, hm2, _⟩ := h2
  obtain ⟨A3, c3, rfl, _, hm3, _⟩ := h3
  unfold maxLen at hm hm2 hm3
  have p00 : ∀ W, Since w0 W → W.cell? ⟨w.heap.size, 0, none⟩ = some (.slice A n.ends.length c) := have_cell (by rw [hw0]; simp)
  have p01 : ∀ W, Since w0 W → W.cell? ⟨w.heap.size, 1, none⟩ = some (.slice A2 n.ids.length c2) := have_cell (by rw [hw0]; simp)
  have p02 : ∀ W, Since w0 W → W.cell? ⟨w.heap.size, 2, none⟩ = some (.slice A3 n.inputs.length c3) := have_cell (by rw [hw0]; simp)
  have Hb0 := Lib.hid hb0
  have Hw0 := Lib.hid hw0
  have HA := Lib.hid hA
  clear hA h
  clear hb0 hw0
  have HL := Lib.hid (hl.keep Hb0.out)
  obtain ⟨AL, cL, rfl, hlL, hmL, _⟩ := hl
  unfold maxLen at hmL
  have Hin := Lib.hid hin
  have Hes := Lib.hid hes
  clear hin hes
  have hs0 : Since w0 w0 := since_refl _
  obtain ⟨xs, hxs⟩ : ∃ xs, xs = es.map (·.1) := ⟨_, rfl⟩
  have hxl : xs.length = es.length := by rw [hxs, List.length_map]
  rw [← hxs]
  have Hxs := Lib.hid hxs
  go_enter Tryz.func135, Tryz.ntmps135
  go_upto_region 1 with (fail)
  rw [← Hw0.out]
  go_wp2_with fail
  refine (neNear_any _ _ _ n k es w0 H.out Hes.out (by omega)).mono ?_
  rw [← hxs]
  rintro e w1 ⟨u, rfl, ho, hb1⟩
  obtain ⟨AX, cX, rfl, hXl, hXm, _⟩ := id ho.ints
  have HX := Lib.hid ho.ints
  unfold maxLen at hXm
  have hs1 : Since w0 w1 := hs0.trans hb1
  have Hs1 := Lib.hid hs1
  have hz : Since w1 w1 := since_refl _
  clear ho hb1 hs0 hxs hs1
  go_wp2
  go_loopw [9, 16] (fun uc ui wr => ∃ j : Nat, j ≤ xs.length ∧ ui = .int .i64 j ∧ uc = .int .i64 (sameC l col (xs.take j) : Nat) ∧ Since w1 wr) (fun _ ui _ => xs.length - (intOf ui).toNat)
  case atStart => exact ⟨0, Nat.zero_le _, rfl, rfl, hz⟩
  case round =>
    obtain ⟨j, hj, rfl, rfl, hsr⟩ := hrel
    by_cases hlt : j < xs.length
    · obtain ⟨y, hy⟩ := getx xs j hlt
      have hym : 0 ≤ y ∧ y < l.length := by
        have hm := List.mem_of_getElem? hy
        rw [Hxs.out] at hm
        obtain ⟨e, he, rfl⟩ := List.mem_map.1 hm
        exact Hin.out e he
      obtain ⟨q, rfl⟩ := Int.eq_ofNat_of_zero_le hym.1
      have hq : q < l.length := by omega
      obtain ⟨z, hzz⟩ := getx l q hq
      obtain ⟨b1, off1, hA1, hc1⟩ := (by
        obtain ⟨A', c', e', _, _, hA⟩ := HX.out
        cases e'
        exact hA j _ hy : ∃ b off, AX = some ⟨b, off, none⟩ ∧ w1.cell? ⟨b, off + j, none⟩ = some (.int .i64 (q : Int)))
      obtain ⟨b2, off2, hA2, hc2⟩ := (by
        obtain ⟨A', c', e', _, _, hA⟩ := HL.out
        cases e'
        exact hA q _ hzz : ∃ b off, AL = some ⟨b, off, none⟩ ∧ w0.cell? ⟨b, off + q, none⟩ = some (.int .i64 z))
      subst hA1 hA2
      have q1 := hsr.cell hc1
      have q2 := (Hs1.out.after hsr).cell hc2
      have Hsn := Lib.hid (sameC_snoc (l := l) (c := col) hy)
      have hle2 : sameC l col (xs.take j) ≤ 1000 := by have := sameC_le l col (xs.take j); rw [List.length_take] at this; omega
      obtain ⟨ct, hct⟩ : ∃ ct, ct = sameC l col (xs.take j) := ⟨_, rfl⟩
      rw [← hct] at hle2 Hsn ⊢
      have Hz : Hid (l.getD (q : Int).toNat 0 = z) := by show _ = _; rw [Int.toNat_natCast, getD_of hzz]
      have mw : IntKind.i64.wrap ((ct : Int) + 1) = (ct : Int) + 1 := wr64 _ (by omega) (by omega)
      have HS := Lib.hid hsr
      clear hy hym hzz hc1 hc2 hct hz hsr
      cases hb : (z == col)
      · have hn : Hid (sameC l col (xs.take (j + 1)) = ct) := by show _ = _; rw [Hsn.out, Hz.out, hb]; simp
        have hb2 : (z = col) = False := by simpa using hb
        go_wp2
        go_roundw
        case rel => exact ⟨j + 1, by omega, by go_num, by rw [hn.out], HS.out⟩
        case measure => simp [intOf]; omega
      · have hn : Hid (sameC l col (xs.take (j + 1)) = ct + 1) := by show _ = _; rw [Hsn.out, Hz.out, hb]; simp
        have hb2 : (z = col) = True := by simpa using hb
        go_wp2
        go_roundw
        case rel => exact ⟨j + 1, by omega, by go_num, by rw [hn.out]; go_num, HS.out⟩
        case measure => simp [intOf]; omega
    · obtain rfl : j = xs.length := by omega
      have HS := Lib.hid hsr
      clear hsr hz
      go_wp2
      go_ret
      exact ⟨by rw [List.take_length]; rfl, Since.after Hb0.out (Hs1.out.after HS.out)⟩
end Go.Proofs.YtfkmkpamdlhbgaaGreat
