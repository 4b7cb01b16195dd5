/- Parts of the proof: walks of functions and plain laws. -/
import Derived.Test.YtomnaabadohecaaGreatP5
import Derived.Test.YtomnaabadohecaaGreatP4
namespace Go.Proofs.YtomnaabadohecaaGreat
open Go.RowKit
/-! a row of clauses of its own -/
def encC (e : Int × Value × Int) : List Value := [.int .i64 e.1, e.2.1, .int .i64 e.2.2]
def OwnC3 : World → Nat → Value → List (Int × Value × Int) → List Nat → Prop := LeafR 159 3 encC
theorem lawC3 : RowLaw OwnC3 := leaf_law _ _ _
theorem encC_get {es : List (Int × Value × Int)} {k : Nat} {x : Int × Value × Int} (h : es[k]? = some x) : (es.flatMap encC)[k * 3]? = some (.int .i64 x.1) ∧ (es.flatMap encC)[k * 3 + 1]? = some x.2.1 ∧ (es.flatMap encC)[k * 3 + 2]? = some (.int .i64 x.2.2) := by
  induction es generalizing k with
  | nil => simp at h
  | cons e es ih =>
    cases k with
    | zero => simp at h; subst h; simp [encC]
    | succ k =>
      have := ih (k := k) (by simpa using h)
      rw [List.flatMap_cons, show (k + 1) * 3 = k * 3 + 3 by omega]
      simp only [encC, List.cons_append, List.nil_append]
      exact ⟨by simpa using this.1, by rw [show k * 3 + 3 + 1 = (k * 3 + 1) + 1 + 1 + 1 by omega]; simpa using this.2.1, by rw [show k * 3 + 3 + 2 = (k * 3 + 2) + 1 + 1 + 1 by omega]; simpa using this.2.2⟩
theorem encC_set {es : List (Int × Value × Int)} {k : Nat} (x : Int × Value × Int) (h : k < es.length) : (((es.flatMap encC).set (k * 3) (.int .i64 x.1)).set (k * 3 + 1) x.2.1).set (k * 3 + 2) (.int .i64 x.2.2) = (es.set k x).flatMap encC := by
  induction es generalizing k with
  | nil => simp at h
  | cons e es ih =>
    cases k with
    | zero => simp [encC]
    | succ k =>
      have := ih (k := k) (by simpa using h)
      rw [List.flatMap_cons, show (k + 1) * 3 = k * 3 + 1 + 1 + 1 by omega]
      simp only [encC, List.cons_append, List.nil_append, List.set_cons_succ, List.flatMap_cons] at this ⊢
      rw [this]
theorem OwnC3.cells {w : World} {base g c n : Nat} {es : List (Int × Value × Int)} {S : List Nat} (h : OwnC3 w base (.slice (some ⟨g, 0, none⟩) n c) es S) {k : Nat} {x : Int × Value × Int} (hx : es[k]? = some x) :
    w.cell? ⟨g, k * 3, none⟩ = some (.int .i64 x.1) ∧ w.cell? ⟨g, k * 3 + 1, none⟩ = some x.2.1 ∧ w.cell? ⟨g, k * 3 + 2, none⟩ = some (.int .i64 x.2.2) ∧ w.frozen? ⟨g, k * 3, none⟩ = false ∧ w.frozen? ⟨g, k * 3 + 1, none⟩ = false ∧ w.frozen? ⟨g, k * 3 + 2, none⟩ = false := by
  obtain ⟨h, _⟩ := h
  have hn := ownsRow_len h
  subst hn
  have := lt_of_get hx
  exact ⟨by rw [h.cellAt (cap := c) _ (by omega)]; exact (encC_get hx).1, by rw [h.cellAt (cap := c) _ (by omega)]; exact (encC_get hx).2.1, by rw [h.cellAt (cap := c) _ (by omega)]; exact (encC_get hx).2.2, h.frozenAt _, h.frozenAt _, h.frozenAt _⟩
theorem OwnC3.set {w : World} {base g c n : Nat} {es : List (Int × Value × Int)} {S : List Nat} (h : OwnC3 w base (.slice (some ⟨g, 0, none⟩) n c) es S) {k : Nat} (hk : k < es.length) (x : Int × Value × Int) :
    OwnC3 (((w.setCell ⟨g, k * 3, none⟩ (.int .i64 x.1)).setCell ⟨g, k * 3 + 1, none⟩ x.2.1).setCell ⟨g, k * 3 + 2, none⟩ (.int .i64 x.2.2)) base (.slice (some ⟨g, 0, none⟩) n c) (es.set k x) S := by
  obtain ⟨h, hS⟩ := h
  have hn := ownsRow_len h
  subst hn
  have h1 := (h.stored (k * 3) (.int .i64 x.1)).1
  have h2 := (h1.stored (k * 3 + 1) x.2.1).1
  have h3 := (h2.stored (k * 3 + 2) (.int .i64 x.2.2)).1
  rw [encC_set x hk] at h3
  refine ⟨?_, hS⟩
  rw [List.length_set]
  exact h3
/-- a row of clauses that no change below base touches -/
def OwnCl (w : World) (base : Nat) (v : Value) (cs : List Cl) : Prop := ∀ w', (∀ k, base ≤ k → k < w.heap.size → w'.heap[k]? = w.heap[k]?) → ClauseS w' v cs
theorem OwnCl.read {w : World} {base : Nat} {v : Value} {cs : List Cl} (h : OwnCl w base v cs) : ClauseS w v cs := h w fun _ _ _ => rfl
theorem OwnCl.mono {w : World} {base base' : Nat} {v : Value} {cs : List Cl} (h : OwnCl w base v cs) (hb : base' ≤ base) : OwnCl w base' v cs := fun w' h' => h w' fun k h1 h2 => h' k (by omega) h2
theorem OwnCl.keep {w w1 : World} {base : Nat} {v : Value} {cs : List Cl} (h : OwnCl w base v cs) (hb : Below w.heap.size w w1) : OwnCl w1 base v cs := fun w' h' => h w' fun k h1 h2 => (h' k h1 (Nat.lt_of_lt_of_le h2 hb.size)).trans (hb.block k h2)
theorem OwnCl.put {w : World} {base : Nat} {v : Value} {cs : List Cl} (h : OwnCl w base v cs) {p : Addr} (hp : p.block < base) (u : Value) : OwnCl (w.setCell p u) base v cs := fun w' h' => h w' fun k h1 h2 => (h' k h1 (by rw [sizeSet]; exact h2)).trans (Below.heap_setCell _ _ _ _ (by omega))
theorem clause_info : (Tryz.prog.info? 159).map (fun i => (i.zero, i.size, i.bytes)) = some (some (.agg #[.int .i64 0, .slice none 0 0, .int .i64 0]), 3, 40) := by kernel_rfl
def t0C : Int × Value × Int := (0, .slice none 0 0, 0)
theorem enc_zeros (n i : Nat) : ((List.replicate n t0C).flatMap encC)[i]? = if i < n * 3 then (encC t0C)[i % 3]? else none := by
  induction n generalizing i with
  | zero => simp
  | succ n ih =>
    rw [List.replicate_succ, List.flatMap_cons]
    match i with
    | 0 => simp [encC]
    | 1 => simp [encC]; omega
    | 2 => simp [encC]; omega
    | i + 3 =>
      have e1 : (i + 3) % 3 = i % 3 := by omega
      rw [List.getElem?_append_right (by simp [encC]), show i + 3 - (encC t0C).length = i by simp [encC], ih, e1]
      by_cases h : i < n * 3
      · rw [if_pos h, if_pos (by omega)]
      · rw [if_neg h, if_neg (by omega)]
theorem made_clauses (n : Nat) : (madeCells #[Value.int .i64 0, Value.slice none 0 0, Value.int .i64 0] (n * 3)).toList = (List.replicate n t0C).flatMap encC := by
  apply List.ext_getElem?
  intro i
  rw [enc_zeros]
  by_cases h : i < n * 3
  · rw [if_pos h]
    have h3 : i % 3 < 3 := Nat.mod_lt _ (by omega)
    simp [madeCells, h, encC, t0C]
    match hm : i % 3, h3 with
    | 0, _ => simp
    | 1, _ => simp
    | 2, _ => simp
  · rw [if_neg h]
    simp [madeCells]; omega
section
variable {ops : Array Oper} {rest : List Oper} {o : Oper} {a : Act} {Q : Exit → Act → World → Prop}
theorem mk_clauses (w : World) (hg : o.guard = none) (l c : Operand) (hop : o.op = Op.makeSlice 37 l c) (L C : Int) (n : Nat) (hl : a.eval l = .int .i64 L) (hc : a.eval c = .int .i64 C) (hL : L = (n : Int)) (hC : C = (n : Int)) (hn : n ≤ 1099511627)
    (hK : ∀ w', OwnC3 w' w.heap.size (.slice (some ⟨w.heap.size, 0, none⟩) n n) (List.replicate n t0C) [w.heap.size] → Below w.heap.size w w' → wpList Tryz.prog ops Q rest (a.put o.dst (.slice (some ⟨w.heap.size, 0, none⟩) n n)) w') : wpList Tryz.prog ops Q (o :: rest) a w := by
  obtain ⟨i0, hi, hz0, hz1, hz2⟩ := info_parts clause_info
  refine wpList_make_full w hg l c 37 hop w.heap.size 159 i0 (.agg #[.int .i64 0, .slice none 0 0, .int .i64 0]) 3 Tryz.underlying37 hi hz0 hz1 .i64 .i64 L C n hl hc hL hC (by rw [hz2]; omega) (by unfold maxLen; omega) (Nat.le_refl _) ?_
  intro w' ho hgr
  rw [show (Value.agg #[Value.int IntKind.i64 0, Value.slice none 0 0, Value.int IntKind.i64 0]).cells = #[Value.int .i64 0, Value.slice none 0 0, Value.int .i64 0] from rfl, made_clauses] at ho
  exact hK w' ⟨by rw [List.length_replicate]; exact ho, by simp [Value.ownBlock]⟩ (below_grown hgr)
end
set_option maxHeartbeats 4000000 in
theorem toClauseS_any (v : Value) (es : List Cl) (w : World) (h : ClauseS w v es) (hl : szCl es ≤ 1048576) :
    Calls Tryz.prog 66 #[v] w fun e w' => ∃ g, e = .returned (.slice (some ⟨g, 0, none⟩) es.length es.length) ∧ OwnCl w' w.heap.size (.slice (some ⟨g, 0, none⟩) es.length es.length) es ∧ Below w.heap.size w w' := by
  obtain ⟨A, c, rfl, hlc, hm, hA⟩ := h
  unfold maxLen at hm
  have HA := Lib.hid hA
  clear hA
  have hl1 : es.length ≤ 1048576 := by unfold szCl at hl; omega
  have Hl := Lib.hid hl
  clear hl
  go_enter Tryz.func66, Tryz.ntmps66
  go_wp2_with (at_make; refine mk_clauses _ rfl _ _ rfl _ _ es.length rfl rfl rfl rfl (by omega) ?_; intro w1 ho1 hb1)
  go_loopw [4] (fun i wr => ∃ (k : Nat) (us : List (Int × Value × Int)), k ≤ es.length ∧ i = .int .i64 k ∧ us.length = es.length ∧ OwnC3 wr w.heap.size (.slice (some ⟨w.heap.size, 0, none⟩) es.length es.length) us [w.heap.size] ∧ (∀ j x, j < k → es[j]? = some x → ∃ u T, us[j]? = some (x.state, u, x.next) ∧ OwnI wr (w.heap.size + 1) u x.inbox T) ∧ Below w.heap.size w wr) (fun i _ => es.length - (intOf i).toNat)
  case atStart => exact ⟨0, _, Nat.zero_le _, rfl, by simp, ho1, fun j x hj => absurd hj (by omega), hb1⟩
  case round =>
    obtain ⟨k, us, hk, rfl, hul, ho, hold, hb⟩ := hrel
    clear ho1 hb1
    have Hold := Lib.hid hold
    by_cases hlt : k < es.length
    · obtain ⟨x, hx⟩ := getx es k hlt
      obtain ⟨b, off, u, rfl, hc1, hc2, hc3, hu⟩ := HA.out k x hx
      have k1 := bc hb hc1
      have k2 := bc hb hc2
      have k3 := bc hb hc3
      have Hu := Lib.hid (hu.keep hb)
      obtain ⟨U1, y1, rfl, _⟩ := hu
      have Ho := Lib.hid ho
      have Hb := Lib.hid hb
      have Hx := Lib.hid hx
      have Hul := Lib.hid hul
      have Hxl : Hid (x.inbox.length ≤ 17592186044416) := by
        have h1 := szC_snoc hx
        have h2 := szC_le es (k + 1)
        have h3 := Hl.out
        unfold szCl at h3
        exact show _ ≤ _ by omega
      have hgr : w.heap.size + 1 ≤ wr.heap.size := by have := (lawC3.range ho w.heap.size (by simp)).2; omega
      clear hx hc1 hc2 hc3 ho hb hold hul
      go_wp2_with fail
      refine (toClause_any x.state _ x.next x.inbox _ Hu.out Hxl.out).mono ?_
      rintro e w2 ⟨v2, rfl, hr2, hb2⟩
      obtain ⟨D1, d1, hu1, _⟩ := id hr2.ints
      subst hu1
      have ho2 := lawC3.keep Ho.out hb2
      obtain ⟨y, hy⟩ := getx us k (by have := Hul.out; omega)
      obtain ⟨c1, c2, c3, f1, f2, f3⟩ := ho2.cells hy
      have ho3 := ho2.set (k := k) (by have := Hul.out; omega) (x.state, .slice D1 x.inbox.length d1, x.next)
      have Ho3 := Lib.hid ho3
      have Hb3 := Lib.hid ((((Hb.out.trans (hb2.mono Hb.out.size)).setCell (p := ⟨w.heap.size, k * 3, none⟩) (Nat.le_refl _) (.int .i64 x.state)).setCell (p := ⟨w.heap.size, k * 3 + 1, none⟩) (Nat.le_refl _) (.slice D1 x.inbox.length d1)).setCell (p := ⟨w.heap.size, k * 3 + 2, none⟩) (Nat.le_refl _) (.int .i64 x.next))
      have Hnew : Hid (∀ j z, j < k + 1 → es[j]? = some z → ∃ u T, (us.set k (x.state, .slice D1 x.inbox.length d1, x.next))[j]? = some (z.state, u, z.next) ∧ OwnI (((w2.setCell ⟨w.heap.size, k * 3, none⟩ (.int .i64 x.state)).setCell ⟨w.heap.size, k * 3 + 1, none⟩ (.slice D1 x.inbox.length d1)).setCell ⟨w.heap.size, k * 3 + 2, none⟩ (.int .i64 x.next)) (w.heap.size + 1) u z.inbox T) := fun j z hj hz => by
        by_cases hjk : j = k
        · subst hjk
          have hzx := Hx.out
          rw [hz] at hzx
          cases hzx
          have q0 : OwnI w2 (w.heap.size + 1) (.slice D1 x.inbox.length d1) x.inbox _ := lawI.mono ⟨hr2, rfl⟩ hgr
          have q3 := RowLaw.put lawI (RowLaw.put lawI (RowLaw.put lawI q0 (p := ⟨w.heap.size, j * 3, none⟩) (Nat.lt_succ_self _) (.int .i64 x.state)) (p := ⟨w.heap.size, j * 3 + 1, none⟩) (Nat.lt_succ_self _) (.slice D1 x.inbox.length d1)) (p := ⟨w.heap.size, j * 3 + 2, none⟩) (Nat.lt_succ_self _) (.int .i64 x.next)
          exact ⟨_, _, by rw [List.getElem?_set_self (by have := Hul.out; omega)], q3⟩
        · obtain ⟨u, T, g1, g2⟩ := Hold.out j z (by omega) hz
          have q3 := RowLaw.put lawI (RowLaw.put lawI (RowLaw.put lawI (lawI.keep g2 hb2) (p := ⟨w.heap.size, k * 3, none⟩) (Nat.lt_succ_self _) (.int .i64 x.state)) (p := ⟨w.heap.size, k * 3 + 1, none⟩) (Nat.lt_succ_self _) (.slice D1 x.inbox.length d1)) (p := ⟨w.heap.size, k * 3 + 2, none⟩) (Nat.lt_succ_self _) (.int .i64 x.next)
          exact ⟨u, T, by rw [List.getElem?_set_ne (Ne.symm hjk)]; exact g1, q3⟩
      clear ho2 hy ho3 hb2 hr2
      go_wp2
      go_roundw
      case rel => exact ⟨k + 1, _, by omega, by simp, by rw [List.length_set]; exact Hul.out, Ho3.out, Hnew.out, Hb3.out⟩
      case measure => simp [intOf]; omega
    · have hfin : Hid (OwnCl wr w.heap.size (.slice (some ⟨w.heap.size, 0, none⟩) es.length es.length) es) := fun w' hw' => by
        have hO : OwnC3 w' w.heap.size (.slice (some ⟨w.heap.size, 0, none⟩) es.length es.length) us [w.heap.size] := lawC3.stable ho (fun j hj => by have := lawC3.range ho j hj; exact hw' j this.1 this.2)
        refine ⟨_, es.length, rfl, Nat.le_refl _, by unfold maxLen; omega, fun j x hx => ?_⟩
        have := lt_of_get hx
        obtain ⟨u, T, g1, g2⟩ := Hold.out j x (by omega) hx
        obtain ⟨c1, c2, c3, _⟩ := hO.cells g1
        refine ⟨w.heap.size, 0, u, rfl, by rw [Nat.zero_add]; exact c1, by rw [Nat.zero_add]; exact c2, by rw [Nat.zero_add]; exact c3, ?_⟩
        exact (lawI.stable g2 (fun j hj => by have := lawI.range g2 j hj; exact hw' j (by omega) this.2)).1.ints
      have Hb := Lib.hid hb
      clear ho hb hold hul
      go_wp2
      go_ret
      exact ⟨_, rfl, hfin.out, Hb.out⟩
end Go.Proofs.YtomnaabadohecaaGreat
namespace Go.Proofs.YtomnaabadohecaaGreat
open Go.RowKit
/-! equal clauses are found equal -/
set_option maxHeartbeats 2000000 in
theorem eqClause_same (s : Int) (u u' : Value) (nx : Int) (xs : List Int) (w : World) (h : IntS w u xs) (h' : IntS w u' xs) :
    Calls Tryz.prog 135 #[.agg #[.int .i64 s, u, .int .i64 nx], .agg #[.int .i64 s, u', .int .i64 nx]] w fun e w' => e = .returned (.bool true) ∧ Below w.heap.size w w' := by
  obtain ⟨A1, z1, hv1, _⟩ := id h
  obtain ⟨C1, y1, hu1, _⟩ := id h'
  obtain ⟨w0, hw0⟩ : ∃ w0, w0 = (w.alloc (.cells #[.int .i64 s, u, .int .i64 nx] 159)).alloc (.cells #[.int .i64 s, u', .int .i64 nx] 159) := ⟨_, rfl⟩
  have hb0 : Below w.heap.size w w0 := by rw [hw0]; exact ((Below.refl _ _).alloc (Nat.le_refl _) _).alloc (by simp) _
  have p2 : ∀ W, Since w0 W → W.cell? ⟨w.heap.size, 2, none⟩ = some (.int .i64 nx) := fun W hW => bc hW (by rw [hw0]; simp)
  have q2 : ∀ W, Since w0 W → W.cell? ⟨w.heap.size + 1, 2, none⟩ = some (.int .i64 nx) := fun W hW => bc hW (by rw [hw0]; simp)
  have H := Lib.hid (h.keep hb0)
  have H' := Lib.hid (h'.keep hb0)
  have Hw0 := Lib.hid hw0
  have Hb0 := Lib.hid hb0
  clear h h' hb0 hw0
  subst hv1 hu1
  go_enter Tryz.func135, Tryz.ntmps135
  go_wp2_with fail
  rw [← Hw0.out]
  refine (eqIntS_b _ _ xs xs _ (by exact H.out) (by exact H'.out)).mono ?_
  rw [show eqIs xs xs = true from decide_eq_true rfl]
  rintro e w1 ⟨rfl, hb1⟩
  have hs1 : Since w0 w1 := hb1
  clear hb1
  go_wp2
  go_ret
  exact ⟨rfl, Hb0.out.trans (hs1.mono Hb0.out.size)⟩
set_option maxHeartbeats 2000000 in
theorem eqClauseS_same (v u : Value) (xs : List Cl) (w : World) (h : ClauseS w v xs) (h' : ClauseS w u xs) :
    Calls Tryz.prog 72 #[v, u] w fun e w' => e = .returned (.bool true) ∧ Below w.heap.size w w' := by
  obtain ⟨A, c, rfl, hlc, hm, hA⟩ := h
  obtain ⟨B, d, rfl, hld, hmd, hB⟩ := h'
  unfold maxLen at hm hmd
  have HA := Lib.hid hA
  have HB := Lib.hid hB
  clear hA hB
  go_enter Tryz.func72, Tryz.ntmps72
  go_wp2
  go_loopw [5] (fun i wr => ∃ k : Nat, k ≤ xs.length ∧ i = .int .i64 k ∧ Below w.heap.size w wr) (fun i _ => xs.length - (intOf i).toNat)
  case atStart => exact ⟨0, Nat.zero_le _, rfl, Below.refl _ _⟩
  case round =>
    obtain ⟨k, hk, rfl, hbl⟩ := hrel
    have Hbl := Lib.hid hbl
    clear hbl
    by_cases hlt : k < xs.length
    · obtain ⟨x, hx⟩ := getx xs k hlt
      obtain ⟨b, off, u1, rfl, hc1, hc2, hc3, hr1⟩ := HA.out k x hx
      obtain ⟨b', off', u2, rfl, hd1, hd2, hd3, hr2⟩ := HB.out k x hx
      have k1 := bc Hbl.out hc1
      have k2 := bc Hbl.out hc2
      have k3 := bc Hbl.out hc3
      have k4 := bc Hbl.out hd1
      have k5 := bc Hbl.out hd2
      have k6 := bc Hbl.out hd3
      have Hr1 := Lib.hid (hr1.keep Hbl.out)
      have Hr2 := Lib.hid (hr2.keep Hbl.out)
      obtain ⟨A1, z1, rfl, _⟩ := hr1
      obtain ⟨A2, z2, rfl, _⟩ := hr2
      clear hc1 hc2 hc3 hd1 hd2 hd3 hx
      go_wp2
      go_region_held3 (fun w' => w'.cell? ⟨b, off + k * 3, none⟩ = some (.int .i64 x.state) ∧ w'.cell? ⟨b, off + k * 3 + 1, none⟩ = some (.slice A1 x.inbox.length z1) ∧ w'.cell? ⟨b, off + k * 3 + 2, none⟩ = some (.int .i64 x.next) ∧ w'.cell? ⟨b', off' + k * 3, none⟩ = some (.int .i64 x.state) ∧ w'.cell? ⟨b', off' + k * 3 + 1, none⟩ = some (.slice A2 x.inbox.length z2) ∧ w'.cell? ⟨b', off' + k * 3 + 2, none⟩ = some (.int .i64 x.next)) (first | exact ⟨k1, k2, k3, k4, k5, k6⟩ | exact ⟨bc hb1 k1, bc hb1 k2, bc hb1 k3, bc hb1 k4, bc hb1 k5, bc hb1 k6⟩)
        (first | (go_at_call 135; refine (eqClause_same _ _ _ _ x.inbox _ (by exact Hr1.out) (by exact Hr2.out)).mono ?_; rintro e w1 ⟨rfl, hb1⟩))
      have Hb2 := Lib.hid (Hbl.out.drew.trans (hb1.mono (show w.heap.size ≤ wr.heap.size from Hbl.out.size)))
      clear hb1
      go_wp2
      go_roundw
      case rel => exact ⟨k + 1, by omega, by go_num, Hb2.out⟩
      case measure => simp [intOf]; omega
    · go_wp2
      go_ret
      exact ⟨rfl, Hbl.out⟩
end Go.Proofs.YtomnaabadohecaaGreat
namespace Go.Proofs.YtomnaabadohecaaGreat
open Go.RowKit
/-! machines (written by tools/macgen.py) -/
structure Mac where
  degree : Int
  states : Int
  messages : Int
  start : List (List Int)
  send : List (List Int)
  clauses : List Cl
  output : List Int
def MacIn (w : World) (a b c d : Value) (x : Mac) : Prop := IntSS w a x.start ∧ IntSS w b x.send ∧ ClauseS w c x.clauses ∧ IntS w d x.output
theorem MacIn.keep {w w' : World} {a b c d : Value} {x : Mac} (h : MacIn w a b c d x) (hb : Below w.heap.size w w') : MacIn w' a b c d x := ⟨h.1.keep hb, h.2.1.keep hb, h.2.2.1.keep hb, h.2.2.2.keep hb⟩
def szMac (x : Mac) : Nat := szII x.start + szII x.send + szCl x.clauses + x.output.length
set_option maxHeartbeats 4000000 in
theorem szMachine_any (a b c d : Value) (x : Mac) (l : Int) (hl : 0 ≤ l) (hl2 : l ≤ 1048576) (w : World) (h : MacIn w a b c d x) : Calls Tryz.prog 10 #[.agg #[.int .i64 x.degree, .int .i64 x.states, .int .i64 x.messages, a, b, c, d], .int .i64 l] w fun e w' => e = .returned (.int .i64 (left l (szMac x))) ∧ Below w.heap.size w w' := by
  obtain ⟨A1, z1, hv1, _⟩ := id h.1
  obtain ⟨A2, z2, hv2, _⟩ := id h.2.1
  obtain ⟨A3, z3, hv3, _⟩ := id h.2.2.1
  obtain ⟨A4, z4, hv4, _⟩ := id h.2.2.2
  obtain ⟨w0, hw0⟩ : ∃ w0, w0 = w.alloc (.cells #[.int .i64 x.degree, .int .i64 x.states, .int .i64 x.messages, a, b, c, d] 26) := ⟨_, rfl⟩
  have hb0 : Below w.heap.size w w0 := by rw [hw0]; exact below_alloc _ _
  have p0 : ∀ W, Since w0 W → W.cell? ⟨w.heap.size, 3, none⟩ = some a := fun W hW => bc hW (by rw [hw0]; simp)
  have p1 : ∀ W, Since w0 W → W.cell? ⟨w.heap.size, 4, none⟩ = some b := fun W hW => bc hW (by rw [hw0]; simp)
  have p2 : ∀ W, Since w0 W → W.cell? ⟨w.heap.size, 5, none⟩ = some c := fun W hW => bc hW (by rw [hw0]; simp)
  have p3 : ∀ W, Since w0 W → W.cell? ⟨w.heap.size, 6, none⟩ = some d := fun W hW => bc hW (by rw [hw0]; simp)
  have HN := Lib.hid (h.keep hb0)
  have Hb0 := Lib.hid hb0
  have Hw0 := Lib.hid hw0
  clear h hb0 hw0
  subst hv1 hv2 hv3 hv4
  by_cases c1 : l - (szII x.start : Nat) < 0
  · have hr := Lib.hid (show left l (szMac x) = -1 from left_neg (n := szII x.start) (by omega) (by unfold szMac; omega))
    have e1 : left l (szII x.start) = -1 := left_neg c1 (Nat.le_refl _)
    go_enter Tryz.func10, Tryz.ntmps10
    go_wp2_with fail
    rw [← Hw0.out]
    have hs0 : Since w0 w0 := since_refl _
    refine (szIntSS_any _ x.start l hl hl2 _ (by exact (HN.out.keep hs0).1)).mono ?_
    rw [e1]
    rintro e w' ⟨rfl, rfl⟩
    have hs1 := hs0
    go_wp2
    go_ret
    exact ⟨ret_int hr.out.symm, Hb0.out.trans (hs1.mono Hb0.out.size)⟩
  · have e1 : left l (szII x.start) = l - (szII x.start : Nat) := left_pos c1
    obtain ⟨t1, ht1⟩ : ∃ t, t = l - (szII x.start : Nat) := ⟨_, rfl⟩
    rw [← ht1] at e1 c1
    have hp1 : 0 ≤ t1 := by omega
    have hq1 : t1 ≤ 1048576 := by omega
    by_cases c2 : t1 - (szII x.send : Nat) < 0
    · have hr := Lib.hid (show left l (szMac x) = -1 from left_neg (n := szII x.start + szII x.send) (by omega) (by unfold szMac; omega))
      have e2 : left t1 (szII x.send) = -1 := left_neg c2 (Nat.le_refl _)
      have Ht1 := Lib.hid ht1
      clear ht1
      go_enter Tryz.func10, Tryz.ntmps10
      go_wp2_with fail
      rw [← Hw0.out]
      have hs0 : Since w0 w0 := since_refl _
      refine (szIntSS_any _ x.start l hl hl2 _ (by exact (HN.out.keep hs0).1)).mono ?_
      rw [e1]
      rintro e w' ⟨rfl, rfl⟩
      have hs1 := hs0
      go_wp2_with fail
      refine (szIntSS_any _ x.send t1 hp1 hq1 _ (by exact (HN.out.keep hs1).2.1)).mono ?_
      rw [e2]
      rintro e w' ⟨rfl, rfl⟩
      have hs2 := hs1
      go_wp2
      go_ret
      exact ⟨ret_int hr.out.symm, Hb0.out.trans (hs2.mono Hb0.out.size)⟩
    · have e2 : left t1 (szII x.send) = t1 - (szII x.send : Nat) := left_pos c2
      obtain ⟨t2, ht2⟩ : ∃ t, t = t1 - (szII x.send : Nat) := ⟨_, rfl⟩
      rw [← ht2] at e2 c2
      have hp2 : 0 ≤ t2 := by omega
      have hq2 : t2 ≤ 1048576 := by omega
      by_cases c3 : t2 - (szCl x.clauses : Nat) < 0
      · have hr := Lib.hid (show left l (szMac x) = -1 from left_neg (n := szII x.start + szII x.send + szCl x.clauses) (by omega) (by unfold szMac; omega))
        have e3 : left t2 (szCl x.clauses) = -1 := left_neg c3 (Nat.le_refl _)
        have Ht1 := Lib.hid ht1
        clear ht1
        have Ht2 := Lib.hid ht2
        clear ht2
        go_enter Tryz.func10, Tryz.ntmps10
        go_wp2_with fail
        rw [← Hw0.out]
        have hs0 : Since w0 w0 := since_refl _
        refine (szIntSS_any _ x.start l hl hl2 _ (by exact (HN.out.keep hs0).1)).mono ?_
        rw [e1]
        rintro e w' ⟨rfl, rfl⟩
        have hs1 := hs0
        go_wp2_with fail
        refine (szIntSS_any _ x.send t1 hp1 hq1 _ (by exact (HN.out.keep hs1).2.1)).mono ?_
        rw [e2]
        rintro e w' ⟨rfl, rfl⟩
        have hs2 := hs1
        go_wp2_with fail
        refine (szClauseS_any _ x.clauses t2 hp2 hq2 _ (by exact (HN.out.keep hs2).2.2.1)).mono ?_
        rw [e3]
        rintro e w3 ⟨rfl, hb3⟩
        have hs3 : Since w0 w3 := Since.trans hs2 hb3
        clear hb3
        go_wp2
        go_ret
        exact ⟨ret_int hr.out.symm, Hb0.out.trans (hs3.mono Hb0.out.size)⟩
      · have e3 : left t2 (szCl x.clauses) = t2 - (szCl x.clauses : Nat) := left_pos c3
        obtain ⟨t3, ht3⟩ : ∃ t, t = t2 - (szCl x.clauses : Nat) := ⟨_, rfl⟩
        rw [← ht3] at e3 c3
        have hp3 : 0 ≤ t3 := by omega
        have hq3 : t3 ≤ 1048576 := by omega
        obtain ⟨q, hq⟩ : ∃ q, q = left t3 (x.output.length) := ⟨_, rfl⟩
        have hr := Lib.hid (show left l (szMac x) = q by rw [hq]; unfold left szMac; split <;> split <;> omega)
        by_cases c9 : q < 0
        · have hq1 : q = -1 := by rw [hq]; unfold left; split <;> (unfold left at hq; split at hq <;> omega)
          have Ht1 := Lib.hid ht1
          clear ht1
          have Ht2 := Lib.hid ht2
          clear ht2
          have Ht3 := Lib.hid ht3
          clear ht3
          have Hq := Lib.hid hq
          clear hq
          subst hq1
          go_enter Tryz.func10, Tryz.ntmps10
          go_wp2_with fail
          rw [← Hw0.out]
          have hs0 : Since w0 w0 := since_refl _
          refine (szIntSS_any _ x.start l hl hl2 _ (by exact (HN.out.keep hs0).1)).mono ?_
          rw [e1]
          rintro e w' ⟨rfl, rfl⟩
          have hs1 := hs0
          go_wp2_with fail
          refine (szIntSS_any _ x.send t1 hp1 hq1 _ (by exact (HN.out.keep hs1).2.1)).mono ?_
          rw [e2]
          rintro e w' ⟨rfl, rfl⟩
          have hs2 := hs1
          go_wp2_with fail
          refine (szClauseS_any _ x.clauses t2 hp2 hq2 _ (by exact (HN.out.keep hs2).2.2.1)).mono ?_
          rw [e3]
          rintro e w3 ⟨rfl, hb3⟩
          have hs3 : Since w0 w3 := Since.trans hs2 hb3
          clear hb3
          go_wp2_with fail
          refine (szIntS_any _ x.output t3 hp3 hq3 _ (by exact (HN.out.keep hs3).2.2.2)).mono ?_
          rw [← Hq.out]
          rintro e w' ⟨rfl, rfl⟩
          have hs4 := hs3
          go_wp2
          go_ret
          exact ⟨ret_int hr.out.symm, Hb0.out.trans (hs4.mono Hb0.out.size)⟩
        · skip
          have Ht1 := Lib.hid ht1
          clear ht1
          have Ht2 := Lib.hid ht2
          clear ht2
          have Ht3 := Lib.hid ht3
          clear ht3
          have Hq := Lib.hid hq
          clear hq
          go_enter Tryz.func10, Tryz.ntmps10
          go_wp2_with fail
          rw [← Hw0.out]
          have hs0 : Since w0 w0 := since_refl _
          refine (szIntSS_any _ x.start l hl hl2 _ (by exact (HN.out.keep hs0).1)).mono ?_
          rw [e1]
          rintro e w' ⟨rfl, rfl⟩
          have hs1 := hs0
          go_wp2_with fail
          refine (szIntSS_any _ x.send t1 hp1 hq1 _ (by exact (HN.out.keep hs1).2.1)).mono ?_
          rw [e2]
          rintro e w' ⟨rfl, rfl⟩
          have hs2 := hs1
          go_wp2_with fail
          refine (szClauseS_any _ x.clauses t2 hp2 hq2 _ (by exact (HN.out.keep hs2).2.2.1)).mono ?_
          rw [e3]
          rintro e w3 ⟨rfl, hb3⟩
          have hs3 : Since w0 w3 := Since.trans hs2 hb3
          clear hb3
          go_wp2_with fail
          refine (szIntS_any _ x.output t3 hp3 hq3 _ (by exact (HN.out.keep hs3).2.2.2)).mono ?_
          rw [← Hq.out]
          rintro e w' ⟨rfl, rfl⟩
          have hs4 := hs3
          go_wp2
          go_ret
          exact ⟨ret_int hr.out.symm, Hb0.out.trans (hs4.mono Hb0.out.size)⟩
set_option maxHeartbeats 4000000 in
theorem eqMachine_same (a b c d a' b' c' d' : Value) (x : Mac) (w : World) (h : MacIn w a b c d x) (h' : MacIn w a' b' c' d' x) : Calls Tryz.prog 17 #[.agg #[.int .i64 x.degree, .int .i64 x.states, .int .i64 x.messages, a, b, c, d], .agg #[.int .i64 x.degree, .int .i64 x.states, .int .i64 x.messages, a', b', c', d']] w fun e w' => e = .returned (.bool true) ∧ Below w.heap.size w w' := by
  obtain ⟨A1, z1, hv1, _⟩ := id h.1
  obtain ⟨A2, z2, hv2, _⟩ := id h.2.1
  obtain ⟨A3, z3, hv3, _⟩ := id h.2.2.1
  obtain ⟨A4, z4, hv4, _⟩ := id h.2.2.2
  obtain ⟨C1, y1, hu1, _⟩ := id h'.1
  obtain ⟨C2, y2, hu2, _⟩ := id h'.2.1
  obtain ⟨C3, y3, hu3, _⟩ := id h'.2.2.1
  obtain ⟨C4, y4, hu4, _⟩ := id h'.2.2.2
  obtain ⟨w0, hw0⟩ : ∃ w0, w0 = (w.alloc (.cells #[.int .i64 x.degree, .int .i64 x.states, .int .i64 x.messages, a, b, c, d] 39)).alloc (.cells #[.int .i64 x.degree, .int .i64 x.states, .int .i64 x.messages, a', b', c', d'] 39) := ⟨_, rfl⟩
  have hb0 : Below w.heap.size w w0 := by rw [hw0]; exact ((Below.refl _ _).alloc (Nat.le_refl _) _).alloc (by simp) _
  have p0 : ∀ W, Since w0 W → W.cell? ⟨w.heap.size, 3, none⟩ = some a := fun W hW => bc hW (by rw [hw0]; simp)
  have q0 : ∀ W, Since w0 W → W.cell? ⟨w.heap.size + 1, 3, none⟩ = some a' := fun W hW => bc hW (by rw [hw0]; simp)
  have p1 : ∀ W, Since w0 W → W.cell? ⟨w.heap.size, 4, none⟩ = some b := fun W hW => bc hW (by rw [hw0]; simp)
  have q1 : ∀ W, Since w0 W → W.cell? ⟨w.heap.size + 1, 4, none⟩ = some b' := fun W hW => bc hW (by rw [hw0]; simp)
  have p2 : ∀ W, Since w0 W → W.cell? ⟨w.heap.size, 5, none⟩ = some c := fun W hW => bc hW (by rw [hw0]; simp)
  have q2 : ∀ W, Since w0 W → W.cell? ⟨w.heap.size + 1, 5, none⟩ = some c' := fun W hW => bc hW (by rw [hw0]; simp)
  have p3 : ∀ W, Since w0 W → W.cell? ⟨w.heap.size, 6, none⟩ = some d := fun W hW => bc hW (by rw [hw0]; simp)
  have q3 : ∀ W, Since w0 W → W.cell? ⟨w.heap.size + 1, 6, none⟩ = some d' := fun W hW => bc hW (by rw [hw0]; simp)
  have HN := Lib.hid (h.keep hb0)
  have HN' := Lib.hid (h'.keep hb0)
  have Hw0 := Lib.hid hw0
  have Hb0 := Lib.hid hb0
  clear h h' hb0 hw0
  subst hv1 hu1 hv2 hu2 hv3 hu3 hv4 hu4
  go_enter Tryz.func17, Tryz.ntmps17
  go_wp2_with fail
  rw [← Hw0.out]
  have hs0 : Since w0 w0 := since_refl _
  refine (eqIntSS_any _ _ x.start x.start _ (by exact (HN.out.keep hs0).1) (by exact (HN'.out.keep hs0).1)).mono ?_
  rw [decide_eq_true rfl]
  rintro e w1 ⟨rfl, hb1⟩
  have hs1 : Since w0 w1 := Since.trans hs0 hb1
  clear hb1
  go_wp2_with fail
  refine (eqIntSS_any _ _ x.send x.send _ (by exact (HN.out.keep hs1).2.1) (by exact (HN'.out.keep hs1).2.1)).mono ?_
  rw [decide_eq_true rfl]
  rintro e w2 ⟨rfl, hb2⟩
  have hs2 : Since w0 w2 := Since.trans hs1 hb2
  clear hb2
  go_wp2_with fail
  refine (eqClauseS_same _ _ x.clauses _ (by exact (HN.out.keep hs2).2.2.1) (by exact (HN'.out.keep hs2).2.2.1)).mono ?_
  rintro e w3 ⟨rfl, hb3⟩
  have hs3 : Since w0 w3 := Since.trans hs2 hb3
  clear hb3
  go_wp2_with fail
  refine (eqIntS_b _ _ x.output x.output _ (by exact (HN.out.keep hs3).2.2.2) (by exact (HN'.out.keep hs3).2.2.2)).mono ?_
  rw [show eqIs x.output x.output = true from decide_eq_true rfl]
  rintro e w4 ⟨rfl, hb4⟩
  have hs4 : Since w0 w4 := Since.trans hs3 hb4
  clear hb4
  go_wp2
  go_ret
  exact ⟨rfl, Hb0.out.trans (hs4.mono Hb0.out.size)⟩
end Go.Proofs.YtomnaabadohecaaGreat
namespace Go.Proofs.YtomnaabadohecaaGreat
open Go.RowKit
def NewMac (w : World) (x : Mac) (e : Ending) (w' : World) : Prop := ∃ a b c d, e = .returned (.agg #[.int .i64 x.degree, .int .i64 x.states, .int .i64 x.messages, a, b, c, d]) ∧ MacIn w' a b c d x ∧ Below w.heap.size w w'
set_option maxHeartbeats 8000000 in
theorem toMachine_any (a b c d : Value) (x : Mac) (w : World) (h : MacIn w a b c d x) (hl : szMac x ≤ 1048576) : Calls Tryz.prog 13 #[.agg #[.int .i64 x.degree, .int .i64 x.states, .int .i64 x.messages, a, b, c, d]] w (NewMac w x) := by
  unfold szMac at hl
  have hl1 : szII x.start ≤ 1048576 := by omega
  have hl2 : szII x.send ≤ 1048576 := by omega
  have hl3 : szCl x.clauses ≤ 1048576 := by omega
  have hl4 : x.output.length ≤ 17592186044416 := by omega
  obtain ⟨A1, z1, hv1, _⟩ := id h.1
  obtain ⟨A2, z2, hv2, _⟩ := id h.2.1
  obtain ⟨A3, z3, hv3, _⟩ := id h.2.2.1
  obtain ⟨A4, z4, hv4, _⟩ := id h.2.2.2
  subst hv1 hv2 hv3 hv4
  obtain ⟨wa, hwa⟩ : ∃ wa, wa = ((w.alloc (.cells #[.int .i64 x.degree, .int .i64 x.states, .int .i64 x.messages, .slice A1 x.start.length z1, .slice A2 x.send.length z2, .slice A3 x.clauses.length z3, .slice A4 x.output.length z4] 26)).alloc (.cells #[.int .i64 0, .int .i64 0, .int .i64 0, .slice none 0 0, .slice none 0 0, .slice none 0 0, .slice none 0 0] 39)).alloc (.cells #[.int .i64 x.degree, .int .i64 x.states, .int .i64 x.messages, .slice none 0 0, .slice none 0 0, .slice none 0 0, .slice none 0 0] 39) := ⟨_, rfl⟩
  have hba : Below w.heap.size w wa := by rw [hwa]; exact below3 _ _ _ _
  have hsa : wa.heap.size = w.heap.size + 3 := by rw [hwa]; simp
  have b1 : BoxA wa w.heap.size #[.int .i64 x.degree, .int .i64 x.states, .int .i64 x.messages, .slice A1 x.start.length z1, .slice A2 x.send.length z2, .slice A3 x.clauses.length z3, .slice A4 x.output.length z4] := by rw [hwa]; exact ((BoxA.new _ _ _).alloc _).alloc _
  have b2 : BoxA wa (w.heap.size + 1) #[.int .i64 0, .int .i64 0, .int .i64 0, .slice none 0 0, .slice none 0 0, .slice none 0 0, .slice none 0 0] := by
    rw [hwa]
    have := (BoxA.new (w.alloc (.cells #[.int .i64 x.degree, .int .i64 x.states, .int .i64 x.messages, .slice A1 x.start.length z1, .slice A2 x.send.length z2, .slice A3 x.clauses.length z3, .slice A4 x.output.length z4] 26)) #[.int .i64 0, .int .i64 0, .int .i64 0, .slice none 0 0, .slice none 0 0, .slice none 0 0, .slice none 0 0] 39).alloc (.cells #[.int .i64 x.degree, .int .i64 x.states, .int .i64 x.messages, .slice none 0 0, .slice none 0 0, .slice none 0 0, .slice none 0 0] 39)
    simpa using this
  have b3 : BoxA wa (w.heap.size + 2) #[.int .i64 x.degree, .int .i64 x.states, .int .i64 x.messages, .slice none 0 0, .slice none 0 0, .slice none 0 0, .slice none 0 0] := by
    rw [hwa]
    have := BoxA.new ((w.alloc (.cells #[.int .i64 x.degree, .int .i64 x.states, .int .i64 x.messages, .slice A1 x.start.length z1, .slice A2 x.send.length z2, .slice A3 x.clauses.length z3, .slice A4 x.output.length z4] 26)).alloc (.cells #[.int .i64 0, .int .i64 0, .int .i64 0, .slice none 0 0, .slice none 0 0, .slice none 0 0, .slice none 0 0] 39)) #[.int .i64 x.degree, .int .i64 x.states, .int .i64 x.messages, .slice none 0 0, .slice none 0 0, .slice none 0 0, .slice none 0 0] 39
    simpa using this
  have H0 := Lib.hid h
  have Ha := Lib.hid hwa
  have X0 := Lib.hid b1
  have Y0 := Lib.hid b2
  have Z0 := Lib.hid b3
  have HB0 := Lib.hid hba
  clear h hba hwa b1 b2 b3 hl
  go_enter Tryz.func13, Tryz.ntmps13
  go_wp2_with fail
  rw [← Ha.out]
  refine (toIntSS_any _ x.start _ (by exact (H0.out.keep HB0.out).1) hl1).mono ?_
  rintro e w1 ⟨g1, S1, rfl, ko1, hb1⟩
  have hz1 := hb1.size
  have hsz1 : wa.heap.size ≤ wa.heap.size := Nat.le_refl _
  obtain ⟨W1, hW1⟩ : ∃ W1, W1 = w1.setCell ⟨w.heap.size + 2, 3, none⟩ (.slice (some ⟨g1, 0, none⟩) x.start.length x.start.length) := ⟨_, rfl⟩
  obtain ⟨q1, f1⟩ := (Z0.out.below hb1 (by omega)).cell 3 _ rfl
  have b1 : BoxA W1 w.heap.size #[.int .i64 x.degree, .int .i64 x.states, .int .i64 x.messages, .slice A1 x.start.length z1, .slice A2 x.send.length z2, .slice A3 x.clauses.length z3, .slice A4 x.output.length z4] := by rw [hW1]; exact (X0.out.below hb1 (by omega)).set (by simp)
  have b2 : BoxA W1 (w.heap.size + 1) #[.int .i64 0, .int .i64 0, .int .i64 0, .slice none 0 0, .slice none 0 0, .slice none 0 0, .slice none 0 0] := by rw [hW1]; exact (Y0.out.below hb1 (by omega)).set (by simp)
  have b3 : BoxA W1 (w.heap.size + 2) #[.int .i64 x.degree, .int .i64 x.states, .int .i64 x.messages, .slice (some ⟨g1, 0, none⟩) x.start.length x.start.length, .slice none 0 0, .slice none 0 0, .slice none 0 0] := by rw [hW1]; obtain ⟨r, hr⟩ := Z0.out.below hb1 (by omega); exact ⟨r, by simp [World.setCell, Array.getElem?_modify, hr]⟩
  have hB1 : Below w.heap.size w W1 := by rw [hW1]; exact (HB0.out.trans (hb1.mono (by omega))).setCell (by simp) _
  have hsW1 : wa.heap.size ≤ W1.heap.size := by rw [hW1, sizeSet]; omega
  have k1 : OwnII W1 wa.heap.size (.slice (some ⟨g1, 0, none⟩) x.start.length x.start.length) x.start S1 := by rw [hW1]; exact (RowLaw.put lawII (lawII.mono ko1 hsz1) (p := ⟨w.heap.size + 2, 3, none⟩) (by show w.heap.size + 2 < _; omega) _)
  have K1_1 := Lib.hid k1
  clear k1
  have HB1 := Lib.hid hB1
  have HW1 := Lib.hid hW1
  have X1 := Lib.hid b1
  have p1 := (b1.cell 4 _ rfl).1
  rw [hW1] at p1
  have Y1 := Lib.hid b2
  have Z1 := Lib.hid b3
  clear b1
  clear b2 b3 hB1 hb1 ko1
  clear hW1
  go_wp2_with fail
  clear p1 q1 f1
  rw [← HW1.out]
  refine (toIntSS_any _ x.send _ (by exact (H0.out.keep HB1.out).2.1) hl2).mono ?_
  rintro e w2 ⟨g2, S2, rfl, ko2, hb2⟩
  have hz2 := hb2.size
  have hsz2 : wa.heap.size ≤ W1.heap.size := hsW1
  obtain ⟨W2, hW2⟩ : ∃ W2, W2 = w2.setCell ⟨w.heap.size + 2, 4, none⟩ (.slice (some ⟨g2, 0, none⟩) x.send.length x.send.length) := ⟨_, rfl⟩
  obtain ⟨q2, f2⟩ := (Z1.out.below hb2 (by omega)).cell 4 _ rfl
  have b1 : BoxA W2 w.heap.size #[.int .i64 x.degree, .int .i64 x.states, .int .i64 x.messages, .slice A1 x.start.length z1, .slice A2 x.send.length z2, .slice A3 x.clauses.length z3, .slice A4 x.output.length z4] := by rw [hW2]; exact (X1.out.below hb2 (by omega)).set (by simp)
  have b2 : BoxA W2 (w.heap.size + 1) #[.int .i64 0, .int .i64 0, .int .i64 0, .slice none 0 0, .slice none 0 0, .slice none 0 0, .slice none 0 0] := by rw [hW2]; exact (Y1.out.below hb2 (by omega)).set (by simp)
  have b3 : BoxA W2 (w.heap.size + 2) #[.int .i64 x.degree, .int .i64 x.states, .int .i64 x.messages, .slice (some ⟨g1, 0, none⟩) x.start.length x.start.length, .slice (some ⟨g2, 0, none⟩) x.send.length x.send.length, .slice none 0 0, .slice none 0 0] := by rw [hW2]; obtain ⟨r, hr⟩ := Z1.out.below hb2 (by omega); exact ⟨r, by simp [World.setCell, Array.getElem?_modify, hr]⟩
  have hB2 : Below w.heap.size w W2 := by rw [hW2]; exact (HB1.out.trans (hb2.mono (by omega))).setCell (by simp) _
  have hsW2 : wa.heap.size ≤ W2.heap.size := by rw [hW2, sizeSet]; omega
  have k1 : OwnII W2 wa.heap.size (.slice (some ⟨g1, 0, none⟩) x.start.length x.start.length) x.start S1 := by rw [hW2]; exact (RowLaw.put lawII (lawII.keep K1_1.out hb2) (p := ⟨w.heap.size + 2, 4, none⟩) (by show w.heap.size + 2 < _; omega) _)
  have K1_2 := Lib.hid k1
  have k2 : OwnII W2 wa.heap.size (.slice (some ⟨g2, 0, none⟩) x.send.length x.send.length) x.send S2 := by rw [hW2]; exact (RowLaw.put lawII (lawII.mono ko2 hsz2) (p := ⟨w.heap.size + 2, 4, none⟩) (by show w.heap.size + 2 < _; omega) _)
  have K2_2 := Lib.hid k2
  clear k1 k2
  have HB2 := Lib.hid hB2
  have HW2 := Lib.hid hW2
  have X2 := Lib.hid b1
  have p2 := (b1.cell 5 _ rfl).1
  rw [hW2] at p2
  have Y2 := Lib.hid b2
  have Z2 := Lib.hid b3
  clear b1
  clear b2 b3 hB2 hb2 ko2
  clear hW2
  go_wp2_with fail
  clear p2 q2 f2
  rw [← HW2.out]
  refine (toClauseS_any _ x.clauses _ (by exact (H0.out.keep HB2.out).2.2.1) hl3).mono ?_
  rintro e w3 ⟨g3, rfl, ko3, hb3⟩
  have hz3 := hb3.size
  have hsz3 : wa.heap.size ≤ W2.heap.size := hsW2
  obtain ⟨W3, hW3⟩ : ∃ W3, W3 = w3.setCell ⟨w.heap.size + 2, 5, none⟩ (.slice (some ⟨g3, 0, none⟩) x.clauses.length x.clauses.length) := ⟨_, rfl⟩
  obtain ⟨q3, f3⟩ := (Z2.out.below hb3 (by omega)).cell 5 _ rfl
  have b1 : BoxA W3 w.heap.size #[.int .i64 x.degree, .int .i64 x.states, .int .i64 x.messages, .slice A1 x.start.length z1, .slice A2 x.send.length z2, .slice A3 x.clauses.length z3, .slice A4 x.output.length z4] := by rw [hW3]; exact (X2.out.below hb3 (by omega)).set (by simp)
  have b2 : BoxA W3 (w.heap.size + 1) #[.int .i64 0, .int .i64 0, .int .i64 0, .slice none 0 0, .slice none 0 0, .slice none 0 0, .slice none 0 0] := by rw [hW3]; exact (Y2.out.below hb3 (by omega)).set (by simp)
  have b3 : BoxA W3 (w.heap.size + 2) #[.int .i64 x.degree, .int .i64 x.states, .int .i64 x.messages, .slice (some ⟨g1, 0, none⟩) x.start.length x.start.length, .slice (some ⟨g2, 0, none⟩) x.send.length x.send.length, .slice (some ⟨g3, 0, none⟩) x.clauses.length x.clauses.length, .slice none 0 0] := by rw [hW3]; obtain ⟨r, hr⟩ := Z2.out.below hb3 (by omega); exact ⟨r, by simp [World.setCell, Array.getElem?_modify, hr]⟩
  have hB3 : Below w.heap.size w W3 := by rw [hW3]; exact (HB2.out.trans (hb3.mono (by omega))).setCell (by simp) _
  have hsW3 : wa.heap.size ≤ W3.heap.size := by rw [hW3, sizeSet]; omega
  have k1 : OwnII W3 wa.heap.size (.slice (some ⟨g1, 0, none⟩) x.start.length x.start.length) x.start S1 := by rw [hW3]; exact (RowLaw.put lawII (lawII.keep K1_2.out hb3) (p := ⟨w.heap.size + 2, 5, none⟩) (by show w.heap.size + 2 < _; omega) _)
  have K1_3 := Lib.hid k1
  have k2 : OwnII W3 wa.heap.size (.slice (some ⟨g2, 0, none⟩) x.send.length x.send.length) x.send S2 := by rw [hW3]; exact (RowLaw.put lawII (lawII.keep K2_2.out hb3) (p := ⟨w.heap.size + 2, 5, none⟩) (by show w.heap.size + 2 < _; omega) _)
  have K2_3 := Lib.hid k2
  have k3 : OwnCl W3 wa.heap.size (.slice (some ⟨g3, 0, none⟩) x.clauses.length x.clauses.length) x.clauses := by rw [hW3]; exact (OwnCl.put (ko3.mono hsz3) (p := ⟨w.heap.size + 2, 5, none⟩) (by show w.heap.size + 2 < _; omega) _)
  have K3_3 := Lib.hid k3
  clear k1 k2 k3
  have HB3 := Lib.hid hB3
  have HW3 := Lib.hid hW3
  have X3 := Lib.hid b1
  have p3 := (b1.cell 6 _ rfl).1
  rw [hW3] at p3
  have Y3 := Lib.hid b2
  have Z3 := Lib.hid b3
  clear b1
  clear b2 b3 hB3 hb3 ko3
  clear hW3
  go_wp2_with fail
  clear p3 q3 f3
  rw [← HW3.out]
  refine (toIntS_any _ x.output _ (by exact (H0.out.keep HB3.out).2.2.2) hl4).mono ?_
  rintro e w4 ⟨v4, rfl, ho4, hb4⟩
  obtain ⟨D4, d4, hu4, _⟩ := id ho4.ints
  subst hu4
  obtain ⟨S4, hS4⟩ : ∃ S, S = (.slice D4 x.output.length d4 : Value).ownBlock.toList := ⟨_, rfl⟩
  have ko4 : OwnI w4 W3.heap.size (.slice D4 x.output.length d4) x.output S4 := ⟨ho4, hS4⟩
  clear hS4
  have hz4 := hb4.size
  have hsz4 : wa.heap.size ≤ W3.heap.size := hsW3
  obtain ⟨W4, hW4⟩ : ∃ W4, W4 = w4.setCell ⟨w.heap.size + 2, 6, none⟩ (.slice D4 x.output.length d4) := ⟨_, rfl⟩
  obtain ⟨q4, f4⟩ := (Z3.out.below hb4 (by omega)).cell 6 _ rfl
  have b2 : BoxA W4 (w.heap.size + 1) #[.int .i64 0, .int .i64 0, .int .i64 0, .slice none 0 0, .slice none 0 0, .slice none 0 0, .slice none 0 0] := by rw [hW4]; exact (Y3.out.below hb4 (by omega)).set (by simp)
  have b3 : BoxA W4 (w.heap.size + 2) #[.int .i64 x.degree, .int .i64 x.states, .int .i64 x.messages, .slice (some ⟨g1, 0, none⟩) x.start.length x.start.length, .slice (some ⟨g2, 0, none⟩) x.send.length x.send.length, .slice (some ⟨g3, 0, none⟩) x.clauses.length x.clauses.length, .slice D4 x.output.length d4] := by rw [hW4]; obtain ⟨r, hr⟩ := Z3.out.below hb4 (by omega); exact ⟨r, by simp [World.setCell, Array.getElem?_modify, hr]⟩
  have hB4 : Below w.heap.size w W4 := by rw [hW4]; exact (HB3.out.trans (hb4.mono (by omega))).setCell (by simp) _
  have hsW4 : wa.heap.size ≤ W4.heap.size := by rw [hW4, sizeSet]; omega
  have k1 : OwnII W4 wa.heap.size (.slice (some ⟨g1, 0, none⟩) x.start.length x.start.length) x.start S1 := by rw [hW4]; exact (RowLaw.put lawII (lawII.keep K1_3.out hb4) (p := ⟨w.heap.size + 2, 6, none⟩) (by show w.heap.size + 2 < _; omega) _)
  have K1_4 := Lib.hid k1
  have k2 : OwnII W4 wa.heap.size (.slice (some ⟨g2, 0, none⟩) x.send.length x.send.length) x.send S2 := by rw [hW4]; exact (RowLaw.put lawII (lawII.keep K2_3.out hb4) (p := ⟨w.heap.size + 2, 6, none⟩) (by show w.heap.size + 2 < _; omega) _)
  have K2_4 := Lib.hid k2
  have k3 : OwnCl W4 wa.heap.size (.slice (some ⟨g3, 0, none⟩) x.clauses.length x.clauses.length) x.clauses := by rw [hW4]; exact (OwnCl.put (K3_3.out.keep hb4) (p := ⟨w.heap.size + 2, 6, none⟩) (by show w.heap.size + 2 < _; omega) _)
  have K3_4 := Lib.hid k3
  have k4 : OwnI W4 wa.heap.size (.slice D4 x.output.length d4) x.output S4 := by rw [hW4]; exact (RowLaw.put lawI (lawI.mono ko4 hsz4) (p := ⟨w.heap.size + 2, 6, none⟩) (by show w.heap.size + 2 < _; omega) _)
  have K4_4 := Lib.hid k4
  clear k1 k2 k3 k4
  have HB4 := Lib.hid hB4
  have HW4 := Lib.hid hW4
  have Y4 := Lib.hid b2
  have Z4 := Lib.hid b3
  have hfin : Hid (∀ y0 y1 y2 y3 y4 y5 y6, MacIn (((((((W4.setCell ⟨w.heap.size + 1, 0, none⟩ y0).setCell ⟨w.heap.size + 1, 1, none⟩ y1).setCell ⟨w.heap.size + 1, 2, none⟩ y2).setCell ⟨w.heap.size + 1, 3, none⟩ y3).setCell ⟨w.heap.size + 1, 4, none⟩ y4).setCell ⟨w.heap.size + 1, 5, none⟩ y5).setCell ⟨w.heap.size + 1, 6, none⟩ y6) (.slice (some ⟨g1, 0, none⟩) x.start.length x.start.length) (.slice (some ⟨g2, 0, none⟩) x.send.length x.send.length) (.slice (some ⟨g3, 0, none⟩) x.clauses.length x.clauses.length) (.slice D4 x.output.length d4) x ∧ Below w.heap.size w (((((((W4.setCell ⟨w.heap.size + 1, 0, none⟩ y0).setCell ⟨w.heap.size + 1, 1, none⟩ y1).setCell ⟨w.heap.size + 1, 2, none⟩ y2).setCell ⟨w.heap.size + 1, 3, none⟩ y3).setCell ⟨w.heap.size + 1, 4, none⟩ y4).setCell ⟨w.heap.size + 1, 5, none⟩ y5).setCell ⟨w.heap.size + 1, 6, none⟩ y6)) := fun y0 y1 y2 y3 y4 y5 y6 => by
    have r1 := (RowLaw.put lawII (RowLaw.put lawII (RowLaw.put lawII (RowLaw.put lawII (RowLaw.put lawII (RowLaw.put lawII (RowLaw.put lawII K1_4.out (p := ⟨w.heap.size + 1, 0, none⟩) (by show w.heap.size + 1 < _; omega) y0) (p := ⟨w.heap.size + 1, 1, none⟩) (by show w.heap.size + 1 < _; omega) y1) (p := ⟨w.heap.size + 1, 2, none⟩) (by show w.heap.size + 1 < _; omega) y2) (p := ⟨w.heap.size + 1, 3, none⟩) (by show w.heap.size + 1 < _; omega) y3) (p := ⟨w.heap.size + 1, 4, none⟩) (by show w.heap.size + 1 < _; omega) y4) (p := ⟨w.heap.size + 1, 5, none⟩) (by show w.heap.size + 1 < _; omega) y5) (p := ⟨w.heap.size + 1, 6, none⟩) (by show w.heap.size + 1 < _; omega) y6)
    have r2 := (RowLaw.put lawII (RowLaw.put lawII (RowLaw.put lawII (RowLaw.put lawII (RowLaw.put lawII (RowLaw.put lawII (RowLaw.put lawII K2_4.out (p := ⟨w.heap.size + 1, 0, none⟩) (by show w.heap.size + 1 < _; omega) y0) (p := ⟨w.heap.size + 1, 1, none⟩) (by show w.heap.size + 1 < _; omega) y1) (p := ⟨w.heap.size + 1, 2, none⟩) (by show w.heap.size + 1 < _; omega) y2) (p := ⟨w.heap.size + 1, 3, none⟩) (by show w.heap.size + 1 < _; omega) y3) (p := ⟨w.heap.size + 1, 4, none⟩) (by show w.heap.size + 1 < _; omega) y4) (p := ⟨w.heap.size + 1, 5, none⟩) (by show w.heap.size + 1 < _; omega) y5) (p := ⟨w.heap.size + 1, 6, none⟩) (by show w.heap.size + 1 < _; omega) y6)
    have r3 := (OwnCl.put (OwnCl.put (OwnCl.put (OwnCl.put (OwnCl.put (OwnCl.put (OwnCl.put K3_4.out (p := ⟨w.heap.size + 1, 0, none⟩) (by show w.heap.size + 1 < _; omega) y0) (p := ⟨w.heap.size + 1, 1, none⟩) (by show w.heap.size + 1 < _; omega) y1) (p := ⟨w.heap.size + 1, 2, none⟩) (by show w.heap.size + 1 < _; omega) y2) (p := ⟨w.heap.size + 1, 3, none⟩) (by show w.heap.size + 1 < _; omega) y3) (p := ⟨w.heap.size + 1, 4, none⟩) (by show w.heap.size + 1 < _; omega) y4) (p := ⟨w.heap.size + 1, 5, none⟩) (by show w.heap.size + 1 < _; omega) y5) (p := ⟨w.heap.size + 1, 6, none⟩) (by show w.heap.size + 1 < _; omega) y6)
    have r4 := (RowLaw.put lawI (RowLaw.put lawI (RowLaw.put lawI (RowLaw.put lawI (RowLaw.put lawI (RowLaw.put lawI (RowLaw.put lawI K4_4.out (p := ⟨w.heap.size + 1, 0, none⟩) (by show w.heap.size + 1 < _; omega) y0) (p := ⟨w.heap.size + 1, 1, none⟩) (by show w.heap.size + 1 < _; omega) y1) (p := ⟨w.heap.size + 1, 2, none⟩) (by show w.heap.size + 1 < _; omega) y2) (p := ⟨w.heap.size + 1, 3, none⟩) (by show w.heap.size + 1 < _; omega) y3) (p := ⟨w.heap.size + 1, 4, none⟩) (by show w.heap.size + 1 < _; omega) y4) (p := ⟨w.heap.size + 1, 5, none⟩) (by show w.heap.size + 1 < _; omega) y5) (p := ⟨w.heap.size + 1, 6, none⟩) (by show w.heap.size + 1 < _; omega) y6)
    exact ⟨⟨r1.read, r2.read, r3.read, r4.1.ints⟩, (((((((hB4.setCell (p := ⟨w.heap.size + 1, 0, none⟩) (by show w.heap.size ≤ w.heap.size + 1; omega) _).setCell (p := ⟨w.heap.size + 1, 1, none⟩) (by show w.heap.size ≤ w.heap.size + 1; omega) _).setCell (p := ⟨w.heap.size + 1, 2, none⟩) (by show w.heap.size ≤ w.heap.size + 1; omega) _).setCell (p := ⟨w.heap.size + 1, 3, none⟩) (by show w.heap.size ≤ w.heap.size + 1; omega) _).setCell (p := ⟨w.heap.size + 1, 4, none⟩) (by show w.heap.size ≤ w.heap.size + 1; omega) _).setCell (p := ⟨w.heap.size + 1, 5, none⟩) (by show w.heap.size ≤ w.heap.size + 1; omega) _).setCell (p := ⟨w.heap.size + 1, 6, none⟩) (by show w.heap.size ≤ w.heap.size + 1; omega) _)⟩
  rw [hW4] at hfin
  obtain ⟨t0, u0⟩ := b3.cell 0 _ rfl
  obtain ⟨m0, n0⟩ := b2.cell 0 _ rfl
  obtain ⟨t1, u1⟩ := b3.cell 1 _ rfl
  obtain ⟨m1, n1⟩ := b2.cell 1 _ rfl
  obtain ⟨t2, u2⟩ := b3.cell 2 _ rfl
  obtain ⟨m2, n2⟩ := b2.cell 2 _ rfl
  obtain ⟨t3, u3⟩ := b3.cell 3 _ rfl
  obtain ⟨m3, n3⟩ := b2.cell 3 _ rfl
  obtain ⟨t4, u4⟩ := b3.cell 4 _ rfl
  obtain ⟨m4, n4⟩ := b2.cell 4 _ rfl
  obtain ⟨t5, u5⟩ := b3.cell 5 _ rfl
  obtain ⟨m5, n5⟩ := b2.cell 5 _ rfl
  obtain ⟨t6, u6⟩ := b3.cell 6 _ rfl
  obtain ⟨m6, n6⟩ := b2.cell 6 _ rfl
  rw [hW4] at t0 m0 n0 t1 m1 n1 t2 m2 n2 t3 m3 n3 t4 m4 n4 t5 m5 n5 t6 m6 n6
  clear u0 u1 u2 u3 u4 u5 u6
  clear b2 b3 hB4 hb4 ko4 hW4
  go_wp2
  refine bodyPost_ret (v := .agg #[.int .i64 x.degree, .int .i64 x.states, .int .i64 x.messages, .slice (some ⟨g1, 0, none⟩) x.start.length x.start.length, .slice (some ⟨g2, 0, none⟩) x.send.length x.send.length, .slice (some ⟨g3, 0, none⟩) x.clauses.length x.clauses.length, .slice D4 x.output.length d4]) (by simp [results, Tryz.results13, go_sem, *]) rfl ?_
  exact ⟨_, _, _, _, rfl, (hfin.out _ _ _ _ _ _ _).1, (hfin.out _ _ _ _ _ _ _).2⟩
end Go.Proofs.YtomnaabadohecaaGreat
namespace Go.Proofs.YtomnaabadohecaaGreat
open Go.ChangeShapes Go.WideShapes Go.ChangeAt Go.RowKit Go.Joins Go.Deep
/-! machines and states of asynchronous runs, opened -/
section
variable {H : Type} {enc : TypeId × Value → H} {W : World}
set_option maxRecDepth 100000 in
theorem open_ss {n : Nat} {v : Value} {y : DataW H × List MemPlace} (h : DataW.trod enc Tryz.prog W 0 (fun _ => true) true n 22 [v] = some y) : ∃ ess, IntSS W v ess ∧ ∀ es ∈ ess, I64s es := by
  rcases open_slice Tryz.underlying22 h with ⟨hcs, _⟩ | ⟨a, len, cap, m, n', D, Pl, hcs, _, hl, hm, hmm, _, hall⟩
  · simp at hcs; subst hcs
    exact ⟨[], ⟨none, 0, rfl, Nat.le_refl _, Nat.zero_le _, fun k e hk => by simp at hk⟩, by simp⟩
  · simp at hcs; subst hcs
    simp only [if_true] at hmm
    subst hmm
    have hc1 : Tryz.prog.cellsOf 24 = 1 := by kernel_rfl
    have each : ∀ i, ∃ u es, i < m → W.cell? (a.add i) = some u ∧ IntS W u es ∧ I64s es := fun i => by
      by_cases hi : i < m
      · obtain ⟨cs', h1, h2⟩ := hall i hi
        rw [hc1, Nat.mul_one] at h1
        obtain ⟨_, hlen, hcell⟩ := World.cells?_some h1
        match cs', hlen with
        | [u], _ =>
          have := hcell 0 (by omega)
          obtain ⟨es, h3, h4⟩ := open_ints1 h2
          refine ⟨u, es, fun _ => ⟨?_, h3, h4⟩⟩
          simpa [Addr.add] using this
      · exact ⟨.bool true, [], fun h => absurd h hi⟩
    obtain ⟨U, hU⟩ := Classical.axiomOfChoice each
    obtain ⟨E, hE⟩ := Classical.axiomOfChoice hU
    refine ⟨(List.range len).map E, ⟨some a, m, by simp, by simpa using hl, hm, fun k e hk => ?_⟩, fun e he => ?_⟩
    · have hk' : k < len := by have := lt_of_get hk; simpa using this
      obtain ⟨h1, h2, _⟩ := hE k (by omega)
      obtain ⟨b, off, rfl⟩ := plain_of_cell (hE 0 (by omega)).1
      rw [add_plain] at h1
      simp [hk'] at hk
      subst hk
      exact ⟨b, off, U k, rfl, h1, h2⟩
    · obtain ⟨k, hk, rfl⟩ := List.mem_map.1 he
      exact (hE k (by have := List.mem_range.1 hk; omega)).2.2
theorem array7 {α : Type} {cs : Array α} (h : cs.size = 7) : ∃ c0 c1 c2 c3 c4 c5 c6, cs = #[c0, c1, c2, c3, c4, c5, c6] := by
  obtain ⟨l⟩ := cs
  match l, h with
  | [c0, c1, c2, c3, c4, c5, c6], _ => exact ⟨c0, c1, c2, c3, c4, c5, c6, rfl⟩
theorem open_agg7 {P : Program} {r : Reach} {b0 base : Nat} {spare : Nat → Bool} {held : Bool} {t : TypeId} {f0 f1 f2 f3 f4 f5 f6 : Field} {v : Value} {d : DataW H} {p : List MemPlace} (hs : P.underlying t = some (.struct #[f0, f1, f2, f3, f4, f5, f6])) (hone : oneCellFields P #[f0, f1, f2, f3, f4, f5, f6] = true) (hC : P.cellsOf t = 7)
    (hv : Value.okWide P W r b0 t v) (h : DataW.Trod enc P W base spare held t v d p) :
    ∃ (v0 v1 v2 v3 v4 v5 v6 : Value) (y0 y1 y2 y3 y4 y5 y6 : DataW H × List MemPlace) (n : Nat), v = .agg #[v0, v1, v2, v3, v4, v5, v6] ∧ DataW.trod enc P W base spare held n f0.type [v0] = some y0 ∧ DataW.trod enc P W base spare held n f1.type [v1] = some y1 ∧ DataW.trod enc P W base spare held n f2.type [v2] = some y2 ∧ DataW.trod enc P W base spare held n f3.type [v3] = some y3 ∧ DataW.trod enc P W base spare held n f4.type [v4] = some y4 ∧ DataW.trod enc P W base spare held n f5.type [v5] = some y5 ∧ DataW.trod enc P W base spare held n f6.type [v6] = some y6 := by
  obtain ⟨cs, rfl, hsz⟩ := okWide_struct hs hv
  obtain ⟨c0, c1, c2, c3, c4, c5, c6, rfl⟩ := array7 (hsz.trans hC)
  obtain ⟨fuel, hf⟩ := h
  obtain ⟨xs, n, _, _, hl, hlen, hf⟩ := DataW.trod_struct hs hf
  obtain ⟨o0, k0⟩ := hone_of hone 0 f0 rfl
  obtain ⟨o1, k1⟩ := hone_of hone 1 f1 rfl
  obtain ⟨o2, k2⟩ := hone_of hone 2 f2 rfl
  obtain ⟨o3, k3⟩ := hone_of hone 3 f3 rfl
  obtain ⟨o4, k4⟩ := hone_of hone 4 f4 rfl
  obtain ⟨o5, k5⟩ := hone_of hone 5 f5 rfl
  obtain ⟨o6, k6⟩ := hone_of hone 6 f6 rfl
  match xs, hlen with
  | [y0, y1, y2, y3, y4, y5, y6], _ =>
    exact ⟨c0, c1, c2, c3, c4, c5, c6, y0, y1, y2, y3, y4, y5, y6, n, rfl, by simpa [Value.cells, o0, k0] using hf 0 f0 rfl, by simpa [Value.cells, o1, k1] using hf 1 f1 rfl, by simpa [Value.cells, o2, k2] using hf 2 f2 rfl, by simpa [Value.cells, o3, k3] using hf 3 f3 rfl, by simpa [Value.cells, o4, k4] using hf 4 f4 rfl, by simpa [Value.cells, o5, k5] using hf 5 f5 rfl, by simpa [Value.cells, o6, k6] using hf 6 f6 rfl⟩
def In64 (x : Int) : Prop := -9223372036854775808 ≤ x ∧ x ≤ 9223372036854775807
def Cl64 (c : Cl) : Prop := In64 c.state ∧ In64 c.next ∧ I64s c.inbox
set_option maxRecDepth 100000 in
theorem open_clauses {n : Nat} {v : Value} {y : DataW H × List MemPlace} (h : DataW.trod enc Tryz.prog W 0 (fun _ => true) true n 23 [v] = some y) : ∃ cs, ClauseS W v cs ∧ ∀ c ∈ cs, Cl64 c := by
  rcases open_slice Tryz.underlying23 h with ⟨hcs, _⟩ | ⟨a, len, cap, m, n', D, Pl, hcs, _, hl, hm, hmm, _, hall⟩
  · simp at hcs; subst hcs
    exact ⟨[], ⟨none, 0, rfl, Nat.le_refl _, Nat.zero_le _, fun k e hk => by simp at hk⟩, by simp⟩
  · simp at hcs; subst hcs
    simp only [if_true] at hmm
    subst hmm
    have hc3 : Tryz.prog.cellsOf 152 = 3 := by kernel_rfl
    have hci : Tryz.prog.cellsOf 3 = 1 := by kernel_rfl
    have hcs1 : Tryz.prog.cellsOf 24 = 1 := by kernel_rfl
    have each : ∀ i, ∃ (u : Value) (x : Cl), i < m → W.cell? (a.add (i * 3)) = some (.int .i64 x.state) ∧ W.cell? (a.add (i * 3 + 1)) = some u ∧ W.cell? (a.add (i * 3 + 2)) = some (.int .i64 x.next) ∧ IntS W u x.inbox ∧ Cl64 x := fun i => by
      by_cases hi : i < m
      · obtain ⟨cs', h1, h2⟩ := hall i hi
        rw [hc3] at h1
        obtain ⟨_, hlen, hcell⟩ := World.cells?_some h1
        obtain ⟨xs, k, _, _, _, hxl, hf⟩ := DataW.trod_struct Tryz.underlying152 h2
        match xs, hxl, cs', hlen with
        | [y0, y1, y2], _, [c0, c1, c2], _ =>
          have t0 := hf 0 _ rfl
          have t1 := hf 1 _ rfl
          have t2 := hf 2 _ rfl
          simp [hci, hcs1] at t0 t1 t2
          obtain ⟨s, hs, _, ws⟩ := DataW.trod_int Tryz.underlying3 t0
          obtain ⟨q, hq, hq2⟩ := open_ints1 t1
          obtain ⟨z, hz, _, wz⟩ := DataW.trod_int Tryz.underlying3 t2
          simp at hs hz
          subst hs hz
          have e0 := hcell 0 (by omega)
          have e1 := hcell 1 (by omega)
          have e2 := hcell 2 (by omega)
          rw [add_add] at e0 e1 e2
          exact ⟨c1, ⟨s, q, z⟩, fun _ => ⟨by simpa using e0, by simpa using e1, by simpa using e2, hq, wf_i64 ws, wf_i64 wz, hq2⟩⟩
      · exact ⟨.bool true, ⟨0, [], 0⟩, fun h => absurd h hi⟩
    obtain ⟨U, hU⟩ := Classical.axiomOfChoice each
    obtain ⟨E, hE⟩ := Classical.axiomOfChoice hU
    refine ⟨(List.range len).map E, ⟨some a, m, by simp, by simpa using hl, hm, fun k e hk => ?_⟩, fun e he => ?_⟩
    · have hk' : k < len := by have := lt_of_get hk; simpa using this
      obtain ⟨h1, h2, h3, h4, _⟩ := hE k (by omega)
      obtain ⟨b, off, rfl⟩ := plain_of_cell (by simpa using (hE 0 (by omega)).1)
      rw [add_plain] at h1 h2 h3
      simp [hk'] at hk
      subst hk
      exact ⟨b, off, U k, rfl, h1, by rw [Nat.add_assoc]; exact h2, by rw [Nat.add_assoc]; exact h3, h4⟩
    · obtain ⟨k, hk, rfl⟩ := List.mem_map.1 he
      exact (hE k (by have := List.mem_range.1 hk; omega)).2.2.2.2
def Mac64 (m : Mac) : Prop := In64 m.degree ∧ In64 m.states ∧ In64 m.messages ∧ (∀ xs ∈ m.start, I64s xs) ∧ (∀ xs ∈ m.send, I64s xs) ∧ (∀ c ∈ m.clauses, Cl64 c) ∧ I64s m.output
set_option maxRecDepth 100000 in
theorem open_machine {r : Reach} {b0 : Nat} {v : Value} {d : DataW H} {p : List MemPlace}
    (hv : Value.okWide Tryz.prog W r b0 26 v) (h : DataW.Trod enc Tryz.prog W 0 (fun _ => true) true 26 v d p) : ∃ a b c d m, v = .agg #[.int .i64 m.degree, .int .i64 m.states, .int .i64 m.messages, a, b, c, d] ∧ MacIn W a b c d m ∧ Mac64 m := by
  obtain ⟨v0, v1, v2, v3, v4, v5, v6, y0, y1, y2, y3, y4, y5, y6, m, rfl, h0, h1, h2, h3, h4, h5, h6⟩ := open_agg7 Tryz.underlying26 (by kernel_rfl) (by kernel_rfl) hv h
  obtain ⟨s0, e0, _, b0⟩ := DataW.trod_int Tryz.underlying3 h0
  obtain ⟨s1, e1, _, b1⟩ := DataW.trod_int Tryz.underlying3 h1
  obtain ⟨s2, e2, _, b2⟩ := DataW.trod_int Tryz.underlying3 h2
  simp at e0 e1 e2
  subst e0 e1 e2
  obtain ⟨s3, e3, b3⟩ := open_ss h3
  obtain ⟨s4, e4, b4⟩ := open_ss h4
  obtain ⟨s5, e5, b5⟩ := open_clauses h5
  obtain ⟨s6, e6, b6⟩ := open_ints1 h6
  exact ⟨v3, v4, v5, v6, ⟨s0, s1, s2, s3, s4, s5, s6⟩, rfl, ⟨e3, e4, e5, e6⟩, wf_i64 b0, wf_i64 b1, wf_i64 b2, b3, b4, b5, b6⟩
end
end Go.Proofs.YtomnaabadohecaaGreat
namespace Go.Proofs.YtomnaabadohecaaGreat
open Go.RowKit
theorem left_cases {l : Int} (hl : 0 ≤ l) (hl2 : l ≤ 1048576) (k : Nat) : left l k = -1 ∨ ∃ q : Int, left l k = q ∧ 0 ≤ q ∧ q ≤ 1048576 ∧ k ≤ 1048576 := by
  by_cases h : l - k < 0
  · exact Or.inl (by unfold left; rw [if_pos h])
  · exact Or.inr ⟨l - k, by unfold left; rw [if_neg h], by omega, by omega, by omega⟩
end Go.Proofs.YtomnaabadohecaaGreat
