/- Parts of the proof: walks of functions and plain laws. -/
import Derived.Test.YtomnaabadohecaaP13
import Derived.Test.YtomnaabadohecaaP1
import Derived.Test.YtomnaabadohecaaP4
import Derived.Test.YtomnaabadohecaaP5
namespace Go.Proofs.Ytomnaabadohecaa
open Go.RowKit
open Go.Maps (Keyed)
/-! the leaders of the components, in a map of rows -/
/-- what a slice reads as in the map: its address, length and capacity -/
def slD : Value → Option (DataW Unit × List MemPlace)
  | .slice none n c => some (.slice [lI 0, lI n, lI c] [], [])
  | .slice (some ⟨b, 0, none⟩) n c => some (.slice [lI (b + 1), lI n, lI c] [], [])
  | _ => none
def zD : DataW Unit := .slice [lI 0, lI (0 : Nat), lI (0 : Nat)] []
theorem slD_nil : slD (.slice none 0 0) = some (zD, []) := rfl
theorem lI_inj {a b : Int} (h : lI a = lI b) : a = b := by
  unfold lI at h
  injection h with h
  injection h
theorem slD_form {v : Value} {y : DataW Unit × List MemPlace} (h : slD v = some y) : (∃ n c, v = .slice none n c ∧ y = (.slice [lI 0, lI n, lI c] [], [])) ∨ ∃ b n c, v = .slice (some ⟨b, 0, none⟩) n c ∧ y = (.slice [lI ((b : Int) + 1), lI n, lI c] [], []) := by
  unfold slD at h
  split at h
  · rename_i n c; injection h with h; exact .inl ⟨n, c, rfl, h.symm⟩
  · rename_i b n c; injection h with h; exact .inr ⟨b, n, c, rfl, h.symm⟩
  · cases h
theorem slD_inj {u v : Value} {y : DataW Unit × List MemPlace} (h : slD u = some y) (k : slD v = some y) : u = v := by
  rcases slD_form h with ⟨n, c, rfl, e1⟩ | ⟨b, n, c, rfl, e1⟩
  · rcases slD_form k with ⟨n', c', rfl, e2⟩ | ⟨b', n', c', rfl, e2⟩
    · rw [e1] at e2
      simp only [Prod.mk.injEq, DataW.slice.injEq, List.cons.injEq, and_true] at e2
      have h1 := lI_inj e2.2.1
      have h2 := lI_inj e2.2.2
      rw [Int.ofNat.inj h1, Int.ofNat.inj h2]
    · rw [e1] at e2
      simp only [Prod.mk.injEq, DataW.slice.injEq, List.cons.injEq, and_true] at e2
      have h0 := lI_inj e2.1
      omega
  · rcases slD_form k with ⟨n', c', rfl, e2⟩ | ⟨b', n', c', rfl, e2⟩
    · rw [e1] at e2
      simp only [Prod.mk.injEq, DataW.slice.injEq, List.cons.injEq, and_true] at e2
      have h0 := lI_inj e2.1
      omega
    · rw [e1] at e2
      simp only [Prod.mk.injEq, DataW.slice.injEq, List.cons.injEq, and_true] at e2
      have h0 := lI_inj e2.1
      have h1 := lI_inj e2.2.1
      have h2 := lI_inj e2.2.2
      rw [Int.ofNat.inj h1, Int.ofNat.inj h2, show b = b' by omega]
theorem slD_own {w : World} {B : Nat} {v : Value} {xs : List Int} (h : Own w B v xs) : ∃ y, slD v = some (y, []) := by
  rcases h.cases with ⟨rfl, -⟩ | ⟨g, c, rfl, -, -⟩
  · exact ⟨_, rfl⟩
  · exact ⟨_, rfl⟩
theorem zeroS (w : World) : (zeroValue 23).run Try.prog w = .ok (.slice none 0 0) w := by kernel_rfl
structure LeadM (n : Net) (w : World) (B k kk : Nat) (D : DataW Unit) (U : Nat → Value) : Prop where
  map : Maps.IsMap D
  val : ∀ p : Nat, slD (U p) = some (D.atKey (kI p) zD, [])
  own : ∀ p : Nat, Own w B (U p) ((onesTo n p k).map Int.ofNat)
  dis : ∀ (p q j : Nat), p ≠ q → (U p).ownBlock = some j → (U q).ownBlock ≠ some j
  keys : ∀ kl, Maps.has D kl = true → ∃ v, v < kk ∧ kl = kI (leastB n v)
  all : ∀ v, v < kk → Maps.has D (kI (leastB n v)) = true
theorem LeadM.zero (n : Net) (w : World) (B : Nat) : LeadM n w B 0 0 (.map []) (fun _ => .slice none 0 0) where
  map := Maps.isMap_empty
  val := fun p => by rw [slD_nil]; simp [DataW.atKey]
  own := fun p => own_nil _ _
  dis := fun p q j _ h => by simp [Value.ownBlock] at h
  keys := fun kl h => by simp [Maps.has] at h
  all := fun v hv => by omega
theorem LeadM.range {n : Net} {w : World} {B k kk : Nat} {D : DataW Unit} {U : Nat → Value} (h : LeadM n w B k kk D U) {p j : Nat} (hj : (U p).ownBlock = some j) : B ≤ j ∧ j < w.heap.size := World.ownsRow.lt (h.own p) j hj
theorem LeadM.stable {n : Net} {w w' : World} {B k kk : Nat} {D : DataW Unit} {U : Nat → Value} (h : LeadM n w B k kk D U) (hs : ∀ j, B ≤ j → j < w.heap.size → w'.heap[j]? = w.heap[j]?) : LeadM n w' B k kk D U :=
  ⟨h.map, h.val, fun p => ownsRow_stable (h.own p) (fun j hj => by
    have := h.range (p := p) (j := j) (by simpa using hj)
    exact hs j this.1 this.2), h.dis, h.keys, h.all⟩
theorem has_ext {D : DataW Unit} (h : Maps.IsMap D) (n : Net) {k : Nat} (d : DataW Unit) (hk : ∀ kl, Maps.has D kl = true → ∃ v, v < k ∧ kl = kI (leastB n v)) (ha : ∀ v, v < k → Maps.has D (kI (leastB n v)) = true) :
    (∀ kl, Maps.has (D.put (kI (leastB n k)) d) kl = true → ∃ v, v < k + 1 ∧ kl = kI (leastB n v)) ∧ ∀ v, v < k + 1 → Maps.has (D.put (kI (leastB n k)) d) (kI (leastB n v)) = true := by
  constructor
  · intro kl hkl
    by_cases e : kl = kI (leastB n k)
    · exact ⟨k, by omega, e⟩
    · rw [Maps.has_put_other e] at hkl
      obtain ⟨v, hv, e2⟩ := hk kl hkl
      exact ⟨v, by omega, e2⟩
  · intro v hv
    by_cases e : kI (leastB n v) = kI (leastB n k)
    · rw [e]; exact Maps.has_put_same h (kI_key _) _
    · rw [Maps.has_put_other e]
      exact ha v (by
        apply Decidable.byContradiction
        intro hc
        exact e (by rw [show v = k by omega]))
/-- the key is laid, its row as it was -/
theorem LeadM.lay {n : Net} {w : World} {B k : Nat} {D : DataW Unit} {U : Nat → Value} (h : LeadM n w B k k D U) : LeadM n w B k (k + 1) (D.put (kI (leastB n k)) (D.atKey (kI (leastB n k)) zD)) U :=
  ⟨h.map.put _ _, fun p => by
    by_cases e : p = leastB n k
    · subst e
      rw [Maps.atKey_put_same h.map (kI_key _)]; exact h.val _
    · rw [Maps.atKey_put_other (fun e2 => e (kI_inj e2))]; exact h.val _, h.own, h.dis, (has_ext h.map n _ h.keys h.all).1, (has_ext h.map n _ h.keys h.all).2⟩
theorem LeadM.skip {n : Net} {w : World} {B k kk : Nat} {D : DataW Unit} {U : Nat → Value} (h : LeadM n w B k kk D U) (hx : n.inputs.getD k 0 ≠ 1) : LeadM n w B (k + 1) kk D U :=
  ⟨h.map, h.val, fun p => by
    have : oneIn n p k = false := by unfold oneIn; rw [decide_eq_false hx, Bool.and_false]
    rw [(ownTo_skip this).1]; exact h.own p, h.dis, h.keys, h.all⟩
/-- the row of one key has grown -/
theorem LeadM.grow {n : Net} {w w' : World} {B k : Nat} {D : DataW Unit} {U : Nat → Value} {u : Value} {d : DataW Unit} {g : Nat} (h : LeadM n w B k (k + 1) D U) (hx : n.inputs.getD k 0 = 1) (ho : Own w' B u ((onesTo n (leastB n k) k).map Int.ofNat ++ [(k : Int)]))
    (hu : slD u = some (d, [])) (hub : u.ownBlock = some g) (hg : (U (leastB n k)).ownBlock = some g ∨ w.heap.size ≤ g) (hst : ∀ j, B ≤ j → j < w.heap.size → (U (leastB n k)).ownBlock ≠ some j → w'.heap[j]? = w.heap[j]?) :
    LeadM n w' B (k + 1) (k + 1) (D.put (kI (leastB n k)) d) (fun p => if p = leastB n k then u else U p) := by
  refine ⟨h.map.put _ _, fun p => ?_, fun p => ?_, fun p q j hpq hj => ?_, fun kl hkl => ?_, fun v hv => ?_⟩
  · by_cases e : p = leastB n k
    · subst e
      rw [if_pos rfl, Maps.atKey_put_same h.map (kI_key _)]; exact hu
    · rw [if_neg e, Maps.atKey_put_other (fun e2 => e (kI_inj e2))]; exact h.val _
  · by_cases e : p = leastB n k
    · subst e
      have : oneIn n (leastB n k) k = true := by unfold oneIn; rw [decide_eq_true hx, decide_eq_true rfl]; rfl
      rw [if_pos rfl, onesTo_succ, if_pos this, List.map_append]; exact ho
    · have : oneIn n p k = false := by unfold oneIn; rw [decide_eq_false (fun e2 => e e2.symm), Bool.false_and]
      rw [if_neg e, (ownTo_skip this).1]
      refine ownsRow_stable (h.own p) (fun j hj => ?_)
      have hj : (U p).ownBlock = some j := by simpa using hj
      have hr := h.range hj
      exact hst j hr.1 hr.2 (h.dis p _ j e hj)
  · by_cases e : p = leastB n k
    · rw [if_pos e, hub] at hj
      injection hj with hj
      subst hj
      rw [if_neg (fun e2 => hpq (e.trans e2.symm))]
      rcases hg with hg | hg
      · exact h.dis (leastB n k) q g (fun e2 => hpq (e.trans e2)) hg
      · intro hc
        have := (h.range hc).2
        omega
    · rw [if_neg e] at hj
      by_cases e2 : q = leastB n k
      · rw [if_pos e2, hub]
        intro hc
        injection hc with hc
        subst hc
        rcases hg with hg | hg
        · exact h.dis p (leastB n k) g e hj hg
        · have := (h.range hj).2
          omega
      · rw [if_neg e2]; exact h.dis p q j hpq hj
  · by_cases e : kl = kI (leastB n k)
    · exact ⟨k, by omega, e⟩
    · rw [Maps.has_put_other e] at hkl
      exact h.keys kl hkl
  · by_cases e : kI (leastB n v) = kI (leastB n k)
    · rw [e]; exact Maps.has_put_same h.map (kI_key _) _
    · rw [Maps.has_put_other e]; exact h.all v hv
theorem look_row {w : World} {ops : Array Oper} {rest : List Oper} {o : Oper} {a : Act} {Q : Exit → Act → World → Prop} (hg : o.guard = none) (m x : Operand) (hop : o.op = Op.lookup 43 m x false) (b n : Nat) (D : DataW Unit)
    (hm : a.eval m = .map (some b)) (hown : w.ownsMap Try.prog 3 slD b n D) (p : Nat) (hp : p ≤ 1000000) (hx : a.eval x = .int .i64 (p : Int)) (u : Value) (hu : slD u = some (D.atKey (kI p) zD, []))
    (hK : wpList Try.prog ops Q rest (a.put o.dst u) w) : wpList Try.prog ops Q (o :: rest) a w := by
  refine wpList_plain hg fun K' hK' => ?_
  obtain ⟨v, ps, hrun, hv⟩ := hown.lookup lawK Try.underlying43 (zeroS w) slD_nil (keyI hp)
  have hps : ps = [] := by
    rcases slD_form hv with ⟨_, _, _, e⟩ | ⟨_, _, _, _, e⟩
    · injection e with _ e
    · injection e with _ e
  subst hps
  obtain rfl := slD_inj hu hv
  unfold Oper.wp
  simp [execOp, hop, hm, hx, hrun, Result.andThen]
  exact hK' _ _ hK
theorem store_row {w : World} {ops : Array Oper} {rest : List Oper} {o : Oper} {a : Act} {Q : Exit → Act → World → Prop} (hg : o.guard = none) (m x v : Operand) (hop : o.op = Op.mapUpdate 43 m x v) (b n : Nat) (D : DataW Unit)
    (hm : a.eval m = .map (some b)) (hown : w.ownsMap Try.prog 3 slD b n D) (hn : n ≤ 1000000) (p : Nat) (hp : p ≤ 1000000) (hx : a.eval x = .int .i64 (p : Int)) (u : Value) (hv : a.eval v = u) (d : DataW Unit) (hu : slD u = some (d, []))
    (hK : ∀ w', w'.ownsMap Try.prog 3 slD b (n + 1) (D.put (kI p) d) → w.grownBy w' (some b) → wpList Try.prog ops Q rest (a.put o.dst undef) w') : wpList Try.prog ops Q (o :: rest) a w :=
  wpList_mapUpdate_own w hg m x v 43 hop 3 23 lawK Try.underlying43 slD b n D hm hown (by unfold maxLen; omega) _ _ (kI p) hx hv (keyI hp) d [] hu hK
set_option maxRecDepth 100000 in
set_option maxHeartbeats 8000000 in
theorem leaders_any (ve vi vn : Value) (n : Net) (w : World) (h : NetIn w ve vi vn n) (hn : netOk n = true) :
    Calls Try.prog 21 #[.agg #[ve, vi, vn]] w fun e w' => ∃ b D U, e = .returned (.map (some b)) ∧ w'.ownsMap Try.prog 3 slD b 100 D ∧ LeadM n w' (b + 1) n.ends.length n.ends.length D U ∧ w.heap.size ≤ b ∧ Below w.heap.size w w' := by
  have hnl := netOk_len hn
  have hnl1 := hnl.1
  have hnl2 := hnl.2
  have Hil := Lib.hid (netOk_inputs hn).1
  have Hn := Lib.hid hn
  obtain ⟨w0, hw0⟩ : ∃ w0, w0 = (w).alloc (.cells #[ve, vi, vn] 31) := ⟨_, rfl⟩
  have hb0 : Below w.heap.size w w0 := by rw [hw0]; exact ((Below.refl _ _).alloc (by simp) _)
  have H := Lib.hid (h.keep hb0)
  obtain ⟨h1, h2, h3⟩ := h.keep hb0
  obtain ⟨A, c, rfl, hlc, hm, hA⟩ := h1
  obtain ⟨A2, c2, rfl, _, hm2, _⟩ := h2
  obtain ⟨A3, c3, rfl, _, hm3, _⟩ := h3
  unfold maxLen at hm hm2 hm3
  have p00 : ∀ W, Since w0 W → W.cell? ⟨w.heap.size, 0, none⟩ = some (.slice A n.ends.length c) := have_cell (by rw [hw0]; simp)
  have p01 : ∀ W, Since w0 W → W.cell? ⟨w.heap.size, 1, none⟩ = some (.slice A2 n.ids.length c2) := have_cell (by rw [hw0]; simp)
  have p02 : ∀ W, Since w0 W → W.cell? ⟨w.heap.size, 2, none⟩ = some (.slice A3 n.inputs.length c3) := have_cell (by rw [hw0]; simp)
  have Hb0 := Lib.hid hb0
  have Hw0 := Lib.hid hw0
  have HA := Lib.hid hA
  clear hA h
  clear hb0 hw0
  clear hn hnl
  have hmm := @run_makeMap Try.prog
  obtain ⟨b, hb1⟩ : ∃ b, b = w.heap.size + 1 := ⟨_, rfl⟩
  have hb : b = w0.heap.size := by rw [hb1, Hw0.out]; simp
  have Hb1 := Lib.hid hb1
  obtain ⟨w1, hw1⟩ : ∃ w1, w1 = w0.alloc (.map #[] 0) := ⟨_, rfl⟩
  have hs1 : Since w0 w1 := by rw [hw1]; exact since_alloc _ (since_refl _)
  have Ho1 : Hid (w1.ownsMap Try.prog 3 slD b 0 (.map [])) := by rw [hw1, hb]; exact World.ownsMap_made _ _ _ _
  have Hs1 := Lib.hid hs1
  have Hb := Lib.hid hb
  have Hw1 := Lib.hid hw1
  have Hbw : Hid (w0.heap.size ≤ b) := by rw [hb]; exact Nat.le_refl _
  have Hbs : Hid (b + 1 = w1.heap.size) := by show _ = _; rw [hb, hw1]; simp
  clear hw1 hb hb1
  go_enter Try.func21, Try.ntmps21
  go_upto_region 2 with (fail)
  rw [← Hw0.out, ← Hw1.out, ← Hb1.out]
  go_wp2_with fail
  refine (components_any _ _ _ n w1 (H.out.keep Hs1.out.below) Hn.out).mono ?_
  rintro e w2 ⟨u2, rfl, ho2, hb2⟩
  obtain ⟨gc, cc, rfl⟩ : ∃ gc cc, u2 = .slice (some ⟨gc, 0, none⟩) n.ends.length cc := by
    obtain ⟨x, hx⟩ := getx (compB n) 0 (by simp [compB]; omega)
    obtain ⟨g, c, h1, -⟩ := own_row ho2 hx
    exact ⟨g, c, by rw [h1]; simp [compB]⟩
  have Hm2 := Lib.hid (Below.ownsMap Ho1.out hb2)
  have Hs2 : Hid (Below b w0 w2) := (Hs1.out.below.mono (by have := Hb.out; omega)).trans (hb2.mono (by have := Hbs.out; omega))
  obtain ⟨B, hB⟩ : ∃ B, B = w2.heap.size := ⟨_, rfl⟩
  have HB1 : Hid (b + 1 ≤ B) := by show _ ≤ _; rw [hB, Hbs.out]; exact hb2.size
  have Hc2 : Hid (∀ W, (∀ j, j < B → j ≠ b → W.heap[j]? = w2.heap[j]?) → Own W w1.heap.size (.slice (some ⟨gc, 0, none⟩) n.ends.length cc) (compB n)) := fun W hW => ownsRow_stable ho2 (fun j hj => by
    have h5 := World.ownsRow.lt ho2 j (by simpa using hj)
    have h6 := Hbs.out
    exact hW j (by omega) (by omega))
  have HB2 : Hid (B ≤ w2.heap.size) := by rw [hB]; exact Nat.le_refl _
  clear ho2 hb2 hs1 hmm hB
  go_wp2
  go_loopw [10] (fun i wr => ∃ k D U m, k ≤ n.ends.length ∧ m = 2 * k ∧ i = .int .i64 (k : Nat) ∧ wr.ownsMap Try.prog 3 slD b m D ∧ LeadM n wr B k k D U ∧ (∀ j, j < B → j ≠ b → wr.heap[j]? = w2.heap[j]?) ∧ Below b w0 wr ∧ B ≤ wr.heap.size) (fun i _ => n.ends.length - (intOf i).toNat)
  case atStart => exact ⟨0, _, _, 0, Nat.zero_le _, rfl, rfl, Hm2.out, LeadM.zero n _ _, fun j _ _ => rfl, Hs2.out, HB2.out⟩
  case round =>
    obtain ⟨k, D, U, m, hk, hmk, rfl, hm, hlm, hkeep, hs, hBr⟩ := hrel
    have Hm := Lib.hid hm
    have Hlm := Lib.hid hlm
    have Hkeep := Lib.hid hkeep
    have Hs := Lib.hid hs
    have HBr := Lib.hid hBr
    clear hm hlm hkeep hs hBr
    by_cases hlt : k < n.ends.length
    · have m3 : IntKind.i64.wrap ((k : Int) + 1) = (k : Int) + 1 := wr64 _ (by omega) (by omega)
      obtain ⟨p, hp⟩ : ∃ p, leastB n k = p := ⟨_, rfl⟩
      have hpl : p ≤ 1000000 := by rw [← hp]; have := least_lt Hn.out hlt; omega
      have c1 := (Hc2.out wr Hkeep.out).cell (show (compB n)[k]? = some (p : Int) by rw [← hp]; unfold compB; rw [List.getElem?_map, List.getElem?_range hlt]; rfl)
      have Hp := Lib.hid hp
      obtain ⟨up, hup⟩ : ∃ up, U p = up := ⟨_, rfl⟩
      have Hup := Lib.hid hup
      have Hv : Hid (slD up = some (D.atKey (kI p) zD, [])) := by have := Hlm.out.val p; rwa [hup] at this
      have Hw : Hid (Own wr B up ((onesTo n p k).map Int.ofNat)) := by have := Hlm.out.own p; rwa [hup] at this
      have hkm : m ≤ 1000000 := by omega
      have Hmk := Lib.hid hmk
      clear hp hup hmk
      go_upto_region 6 with (first | (at_lookup; refine look_row rfl _ _ rfl b m D rfl Hm.out p hpl rfl up Hv.out ?_) | (at_builtin; refine app_zeroI rfl _ _ rfl rfl Hw.out none 0 rfl ?_) | (at_mapUpdate; refine store_row rfl _ _ _ rfl b m D rfl Hm.out hkm p hpl rfl up rfl _ Hv.out ?_; intro w3 hown3 hgrow3; have Hm3 := Lib.hid hown3; have Hg3 := Lib.hid hgrow3; clear hown3 hgrow3))
      obtain ⟨D3, hD3⟩ : ∃ D3, D.put (kI p) (D.atKey (kI p) zD) = D3 := ⟨_, rfl⟩
      rw [hD3] at Hm3
      have Hlm3 : Hid (LeadM n w3 B k (k + 1) D3 U) := by
        have h7 := Hlm.out.lay
        rw [Hp.out, hD3] at h7
        exact h7.stable (fun j hj hj2 => Hg3.out.block j hj2 (fun e => by simp only [Option.some.injEq] at e; have := HB1.out; omega))
      have Hkeep3 : Hid (∀ j, j < B → j ≠ b → w3.heap[j]? = w2.heap[j]?) := fun j hj hne => (Hg3.out.block j (Nat.lt_of_lt_of_le hj HBr.out) (fun e => by simp only [Option.some.injEq] at e; exact hne e)).trans (Hkeep.out j hj hne)
      have Hs3 : Hid (Below b w0 w3) := Below.grown Hs.out Hg3.out (Nat.le_of_lt Hm.out.lt) (fun j hj => by simp only [Option.some.injEq] at hj; omega)
      have HB3 : Hid (B ≤ w3.heap.size) := Nat.le_trans HBr.out Hg3.out.size
      have Hv3 : Hid (slD up = some (D3.atKey (kI p) zD, [])) := by have := Hlm3.out.val p; rwa [Hup.out] at this
      have Hw3 : Hid (Own w3 B up ((onesTo n p k).map Int.ofNat)) := by have := Hlm3.out.own p; rwa [Hup.out] at this
      have hs03 : Since w0 w3 := Hs3.out.mono (Nat.le_trans Hbw.out (Nat.le_refl _)) |> fun h => h
      obtain ⟨x, hx⟩ := getx n.inputs k (by rw [Hil.out]; exact hlt)
      obtain ⟨A9, c9, e9, -, -, hA9⟩ := H.out.ns
      cases e9
      obtain ⟨b9, off9, e8, hc9⟩ := hA9 k x hx
      subst e8
      have i1 := bc hs03 hc9
      have q2 := p02 w3 hs03
      have hji : k < n.inputs.length := by rw [Hil.out]; exact hlt
      have Hx : Hid (n.inputs.getD k 0 = x) := getD_of hx
      clear c1 hD3 hA9 hc9 hx Hm Hlm Hkeep Hs HBr Hv Hw
      by_cases h1 : x = 1
      · subst h1
        have hkm2 : m + 1 ≤ 1000000 := by have := Hmk.out; omega
        have Hlen : Hid (((onesTo n p k).map Int.ofNat).length + 1 ≤ 17592186044416) := by show _ ≤ _; rw [List.length_map]; have := onesTo_len n p k; omega
        go_wp2_with (first | (at_lookup; refine look_row rfl _ _ rfl b (m + 1) D3 rfl Hm3.out p hpl rfl up Hv3.out ?_) | (at_builtin; refine app_int rfl _ _ rfl rfl (Hw3.out.keep (since_alloc _ (since_refl _))) w3.heap.size k rfl (by simp [go_sem]) Hlen.out (Nat.le_trans HB3.out (by simp)) ?_; intro g cx w4 ho4 hg4 hl4 hlt4; have Ho4 := Lib.hid ho4; have Hg4 := Lib.hid hg4; have Hl4 := Lib.hid hl4; have Hlt4 := Lib.hid hlt4; have Hm4 : Hid (w4.ownsMap Try.prog 3 slD b (m + 1) D3) := (Hm3.out.alloc _).kept hg4 (fun e => by have h8 := (World.ownsRow.lt Hw3.out b e.symm).1; have := HB1.out; omega); clear ho4 hg4 hl4 hlt4) | (at_mapUpdate; refine store_row rfl _ _ _ rfl b (m + 1) D3 rfl Hm4.out hkm2 p hpl rfl _ rfl _ rfl ?_; intro w5 hown5 hgrow5; have Hm5 := Lib.hid hown5; have Hg5 := Lib.hid hgrow5; clear hown5 hgrow5))
        have hkeep5 : ∀ j, j < w3.heap.size → j ≠ b → up.ownBlock ≠ some j → w5.heap[j]? = w3.heap[j]? := fun j hj hne hno => by
          have h8 : w4.heap[j]? = (w3.alloc (.cells #[.int .i64 k] 3)).heap[j]? := Hg4.out.block j (by simp; omega) (fun e => hno e.symm)
          have h9 := Hg5.out.block j (by have := Hg4.out.size; simp at this; omega) (fun e => by simp only [Option.some.injEq] at e; exact hne e)
          rw [h9, h8]
          exact Below.heap_alloc w3 _ j hj
        have hub : ∀ j, up.ownBlock = some j → B ≤ j := fun j hj => (World.ownsRow.lt Hw3.out j hj).1
        have hgu : (U p).ownBlock = some g ∨ w3.heap.size ≤ g := by
          rw [Hup.out]
          rcases Hl4.out with h8 | h8
          · exact .inl h8
          · exact .inr (by rw [h8]; simp)
        have hBg : B ≤ g := by
          rcases hgu with h8 | h8
          · rw [Hup.out] at h8; exact hub g h8
          · exact Nat.le_trans HB3.out h8
        have hL5 := Hlm3.out.grow (w' := w5) (u := .slice (some ⟨g, 0, none⟩) (((onesTo n p k).map Int.ofNat).length + 1) cx) (g := g) (by rw [Hx.out])
          (by
            rw [Hp.out]
            exact ownsRow_stable Ho4.out (fun j hj => by
              have h8 : j = g := by simpa [Value.ownBlock, eq_comm] using hj
              subst h8
              exact Hg5.out.block j Hlt4.out (fun e => by simp only [Option.some.injEq] at e; have := HB1.out; omega))) rfl (by simp [Value.ownBlock]) (by rw [Hp.out]; exact hgu)
          (fun j hj hj2 hno => hkeep5 j hj2 (by have := HB1.out; omega) (by rw [Hp.out, Hup.out] at hno; exact hno))
        rw [Hp.out] at hL5
        have HL5 := Lib.hid hL5
        have Hkeep5 : Hid (∀ j, j < B → j ≠ b → w5.heap[j]? = w2.heap[j]?) := fun j hj hne => (hkeep5 j (Nat.lt_of_lt_of_le hj HB3.out) hne (fun e => by have := hub j e; omega)).trans (Hkeep3.out j hj hne)
        have Hs5 : Hid (Below b w0 w5) := Below.grown (Below.grown (Hs3.out.alloc (Nat.le_of_lt Hm3.out.lt) _) Hg4.out (by have := Hm3.out.lt; simp; omega) (fun j hj => by have := hub j hj; have := HB1.out; omega)) Hg5.out (Nat.le_of_lt Hm4.out.lt) (fun j hj => by simp only [Option.some.injEq] at hj; omega)
        have HB5 : Hid (B ≤ w5.heap.size) := by show _ ≤ _; have h7 := HB3.out; have h8 := Hg4.out.size; have h9 := Hg5.out.size; simp at h8; omega
        clear hL5 hkeep5 hub hgu hBg
        go_roundw
        case rel => exact ⟨k + 1, _, _, m + 1 + 1, by omega, by have := Hmk.out; omega, by first | rfl | go_num, Hm5.out, HL5.out, Hkeep5.out, Hs5.out, HB5.out⟩
        case measure => simp [intOf]; omega
      · have hbe : (x == 1) = false := by simpa using h1
        have HL4 : Hid (LeadM n w3 B (k + 1) (k + 1) D3 U) := Hlm3.out.skip (by rw [Hx.out]; exact h1)
        clear h1
        go_wp2
        go_roundw
        case rel => exact ⟨k + 1, _, _, m + 2, by omega, by have := Hmk.out; omega, by first | rfl | go_num, Hm3.out.mono (by omega), HL4.out, Hkeep3.out, Hs3.out, HB3.out⟩
        case measure => simp [intOf]; omega
    · obtain rfl : k = n.ends.length := by omega
      clear hk hlt
      go_wp2
      go_ret
      refine ⟨b, D, U, rfl, Hm.out.mono (by omega), ?_, Nat.le_trans Hb0.out.size Hbw.out, Below.trans Hb0.out (Hs.out.mono (Nat.le_trans Hb0.out.size Hbw.out))⟩
      have h7 := Hlm.out
      exact ⟨h7.map, h7.val, fun p => (h7.own p).mono HB1.out, h7.dis, h7.keys, h7.all⟩
end Go.Proofs.Ytomnaabadohecaa
namespace Go.Proofs.Ytomnaabadohecaa
open Go.RowKit
/-! lists of lists of integers: read, sized, copied, compared, marked, held -/
def IntSS (w : World) (v : Value) (xss : List (List Int)) : Prop :=
  ∃ (A : Option Addr) (c : Nat), v = .slice A xss.length c ∧ xss.length ≤ c ∧ c ≤ maxLen ∧
    (∀ k xs, xss[k]? = some xs → ∃ b off u, A = some ⟨b, off, none⟩ ∧ w.cell? ⟨b, off + k, none⟩ = some u ∧ IntS w u xs)
theorem IntSS.keep {w w' : World} {v : Value} {xs : List (List Int)} (h : IntSS w v xs) (hb : Below w.heap.size w w') : IntSS w' v xs := by
  obtain ⟨A, c, hv, hc, hm, hA⟩ := h
  refine ⟨A, c, hv, hc, hm, fun k x hk => ?_⟩
  obtain ⟨b, off, u, hA', h1, h2⟩ := hA k x hk
  exact ⟨b, off, u, hA', bc hb h1, h2.keep hb⟩
def OwnII : World → Nat → Value → List (List Int) → List Nat → Prop := OwnRows 23 OwnI
theorem lawII : RowLaw OwnII := rows_law _ lawI
theorem OwnI.read {w : World} {base : Nat} {v : Value} {xs : List Int} {S : List Nat} (h : OwnI w base v xs S) : IntS w v xs := h.1.ints
theorem OwnII.read {w : World} {base : Nat} {v : Value} {ess : List (List Int)} {S : List Nat} (h : OwnII w base v ess S) : IntSS w v ess := by
  obtain ⟨vs, Ss, h1, h2, h3, h4, h5⟩ := h
  rcases ownsRow_cases h1 with ⟨rfl, h0⟩ | ⟨g, c, rfl, hb, hg, hc, hm⟩
  · obtain rfl : ess = [] := List.eq_nil_of_length_eq_zero h0
    exact ⟨none, 0, rfl, Nat.le_refl _, Nat.zero_le _, fun k x hk => by simp at hk⟩
  · have hvl : vs.length = ess.length := by simpa using h1.1
    refine ⟨_, c, rfl, hc, hm, fun k x hk => ?_⟩
    have hlt := lt_of_get hk
    obtain ⟨u, hu⟩ := getx vs k (by omega)
    obtain ⟨T, hT⟩ := getx Ss k (by omega)
    exact ⟨g, 0, u, rfl, by rw [Nat.zero_add, h1.cellAt (cap := c) _ (by omega)]; exact hu, OwnI.read (h3 k u x T hu hk hT)⟩
def szR (ess : List (List Int)) : Nat := (ess.map List.length).sum
theorem szR_snoc {ess : List (List Int)} {k : Nat} {es : List Int} (h : ess[k]? = some es) : szR (ess.take (k + 1)) = szR (ess.take k) + es.length := by
  unfold szR
  rw [List.take_add_one, h]; simp
theorem szR_le (ess : List (List Int)) (k : Nat) : szR (ess.take k) ≤ szR ess := by
  unfold szR
  conv => rhs; rw [← List.take_append_drop k ess]
  rw [List.map_append, List.sum_append]; omega
def szII (ess : List (List Int)) : Nat := ess.length + szR ess
theorem rowI_info : (Try.prog.info? 23).map (fun i => (i.zero, i.size, i.bytes)) = some (some (.slice none 0 0), 1, 24) := by kernel_rfl
section
variable {ops : Array Oper} {rest : List Oper} {o : Oper} {a : Act} {Q : Exit → Act → World → Prop}
theorem mk_rowsI (w : World) (hg : o.guard = none) (l c : Operand) (hop : o.op = Op.makeSlice 108 l c) (n : Nat) (hl : a.eval l = .int .i64 (n : Int)) (hc : a.eval c = .int .i64 (n : Int)) (hn : n ≤ 1048576)
    (hK : ∀ w', OwnII w' w.heap.size (.slice (some ⟨w.heap.size, 0, none⟩) n n) (List.replicate n []) [w.heap.size] → Below w.heap.size w w' → wpList Try.prog ops Q rest (a.put o.dst (.slice (some ⟨w.heap.size, 0, none⟩) n n)) w') : wpList Try.prog ops Q (o :: rest) a w := by
  obtain ⟨i0, hi, hz0, hz1, hz2⟩ := info_parts rowI_info
  refine wpList_plain hg fun K hK' => ?_
  have hr := run_make (P := Try.prog) w 108 23 i0 (.slice none 0 0) Try.underlying108 hi hz0 .i64 .i64 n n (by omega) (Int.le_refl _) (by rw [hz2]; omega) (by omega)
  rw [hz1] at hr
  simp only [Int.toNat_natCast] at hr
  rw [show (Value.slice none 0 0).cells = #[Value.slice none 0 0] from rfl, made_rep] at hr
  unfold Oper.wp
  simp only [execOp, hop, hl, hc, Sem.run_bind, hr, Result.andThen_ok, Sem.run_pure]
  refine hK' _ _ (hK _ ?_ (below_alloc _ _))
  have := OwnRows.made (R := OwnI) (e := 23) n (by simp [maxLen]; omega) ownI_nil w
  rw [List.toArray_replicate] at this
  exact this
end
-- the marks
def mkII : Nat → List (List Int) → List (List Int)
  | _, [] => []
  | k, es :: r => marks k es.length :: mkII (k + es.length) r
theorem mkII_append (k : Nat) (a b : List (List Int)) : mkII k (a ++ b) = mkII k a ++ mkII (k + szR a) b := by
  induction a generalizing k with
  | nil => simp [mkII, szR]
  | cons x a ih => simp [mkII, szR, ih, Nat.add_assoc]
theorem szR_append (a b : List (List Int)) : szR (a ++ b) = szR a + szR b := by simp [szR]
theorem mkII_len (k : Nat) (a : List (List Int)) : (mkII k a).length = a.length := by
  induction a generalizing k with
  | nil => rfl
  | cons x a ih => simp [mkII, ih]
theorem mkII_set (a ess : List (List Int)) (j : Nat) (y : List Int) (hl : a.length = j) (h : j < ess.length) : (a ++ ess.drop j).set j y = (a ++ [y]) ++ ess.drop (j + 1) := by
  rw [List.set_append_right _ _ (by omega), hl, Nat.sub_self, List.drop_eq_getElem_cons h, List.set_cons_zero, List.append_assoc]
  rfl
end Go.Proofs.Ytomnaabadohecaa
namespace Go.Proofs.Ytomnaabadohecaa
open Go.RowKit
/-- a row of rows, one row more -/
theorem OwnRows.snoc {β : Type} {R : World → Nat → Value → β → List Nat → Prop} {e : TypeId} (L : RowLaw R) {w w' : World} {base g cap : Nat} {v u : Value} {xs : List β} {x : β} {S T : List Nat} (h : OwnRows e R w base v xs S) (hu : R w base u x T) (hd : ∀ j ∈ T, j ∉ S)
    (vs : List Value) (Ss : List (List Nat)) (h1 : w.ownsRow base e 1 v xs.length vs) (h2 : Ss.length = xs.length) (h3 : ∀ (k : Nat) u x T, vs[k]? = some u → xs[k]? = some x → Ss[k]? = some T → R w base u x T) (h4 : S = v.ownBlock.toList ++ Ss.flatten) (h5 : S.Nodup)
    (q1 : w'.ownsRow base e 1 (.slice (some ⟨g, 0, none⟩) (xs.length + 1) cap) (xs.length + 1) (vs ++ [u])) (q2 : w.grownBy w' v.ownBlock) (q3 : v.ownBlock = some g ∨ g = w.heap.size) :
    ∃ S', OwnRows e R w' base (.slice (some ⟨g, 0, none⟩) (xs.length + 1) cap) (xs ++ [x]) S' ∧ (∀ j ∈ S', j ∈ S ∨ j ∈ T ∨ j = w.heap.size) := by
  have hS := (rows_law e L).range h
  have hTr := L.range hu
  have hvl : vs.length = xs.length := by simpa using h1.1
  have h5' := h5
  rw [h4, List.nodup_append] at h5'
  have hin : ∀ j ∈ Ss.flatten, j ∈ S := fun j hj => by rw [h4]; exact List.mem_append_right _ hj
  have hon := Only.of_grown q2
  have hnv : ∀ j ∈ Ss.flatten, j ∉ v.ownBlock.toList := fun j hj hv => h5'.2.2 j hv j hj rfl
  have hTv : ∀ j ∈ T, j ∉ v.ownBlock.toList := fun j hj hv => hd j hj (by rw [h4]; exact List.mem_append_left _ hv)
  have hg : g ∉ Ss.flatten := fun hg => by
    rcases q3 with q3 | q3
    · exact hnv g hg (by rw [q3]; simp)
    · have := (hS g (hin g hg)).2; omega
  have hgT : g ∉ T := fun hg => by
    rcases q3 with q3 | q3
    · exact hTv g hg (by rw [q3]; simp)
    · have := (hTr g hg).2; omega
  refine ⟨[g] ++ (Ss ++ [T]).flatten, ⟨vs ++ [u], Ss ++ [T], ?_, by simp [h2], ?_, by simp [Value.ownBlock], ?_⟩, ?_⟩
  · rw [List.length_append]; exact q1
  · intro k u' x' T' hu' hx' hT'
    rcases Nat.lt_or_ge k xs.length with hk | hk
    · rw [List.getElem?_append_left (by omega)] at hu' hx' hT'
      exact L.only (h3 k u' x' T' hu' hx' hT') hon (fun j hj => hnv j (List.mem_flatten.2 ⟨T', List.mem_of_getElem? hT', hj⟩))
    · have hk1 : k = xs.length := by
        have := lt_of_get hx'
        simp at this; omega
      subst hk1
      rw [List.getElem?_append_right (Nat.le_refl _), Nat.sub_self] at hx'
      rw [← hvl, List.getElem?_append_right (Nat.le_refl _), Nat.sub_self] at hu'
      rw [← h2, List.getElem?_append_right (Nat.le_refl _), Nat.sub_self] at hT'
      simp at hu' hx' hT'
      subst hu' hx' hT'
      exact L.only hu hon hTv
  · rw [List.flatten_append, List.nodup_append]
    refine ⟨by simp, ?_, ?_⟩
    · rw [List.nodup_append]
      refine ⟨h5'.2.1, by simpa using L.nodup hu, ?_⟩
      intro a ha b hb e
      simp at hb
      subst e
      exact hd a hb (hin a ha)
    · intro a ha b hb e
      simp at ha
      subst e ha
      rcases List.mem_append.1 hb with hb | hb
      · exact hg hb
      · simp at hb; exact hgT hb
  · intro j hj
    rw [List.flatten_append] at hj
    rcases List.mem_append.1 hj with hj | hj
    · simp at hj
      subst hj
      rcases q3 with q3 | q3
      · left; rw [h4, q3]; simp
      · exact .inr (.inr q3)
    · rcases List.mem_append.1 hj with hj | hj
      · exact .inl (hin j hj)
      · simp at hj; exact .inr (.inl hj)
theorem ss_info : (Try.prog.info? 23).map (fun i => (i.zero, i.size, i.bytes)) = some (some (.slice none 0 0), 1, 24) := by kernel_rfl
theorem ownII_one (w : World) (base : Nat) (u : Value) (xs : List Int) (h : Own w base u xs) (hb : base ≤ w.heap.size) : OwnII (w.alloc (.cells #[u] 23)) base (.slice (some ⟨w.heap.size, 0, none⟩) 1 1) [xs] ([w.heap.size] ++ u.ownBlock.toList) := by
  have hr := World.ownsRow_lit (base := w.heap.size) (e := 23) (size := 1) w #[u] 1 (Nat.le_refl _) (by simp [maxLen]) (by simp)
  have hlt := fun j hj => World.ownsRow.lt h j hj
  refine ⟨[u], [u.ownBlock.toList], by simpa using ownsRow_mono hr hb, rfl, ?_, by simp [Value.ownBlock], ?_⟩
  · intro k u' x' T' hu hx hT
    match k, hu, hx, hT with
    | 0, hu, hx, hT =>
      simp at hu hx hT
      subst hu hx hT
      exact ⟨Own.since h (since_alloc _ (since_refl _)), rfl⟩
    | k + 1, hu, _, _ => simp at hu
  · rw [List.nodup_append]
    refine ⟨by simp, by cases u.ownBlock <;> simp, ?_⟩
    intro a ha b hb e
    simp at ha
    subst e ha
    have := (hlt _ (by simpa using hb)).2
    omega
/-- append of a row to a table of integers -/
theorem app_rowII {w : World} {ops : Array Oper} {rest : List Oper} {o : Oper} {a : Act} {Q : Exit → Act → World → Prop} (hgd : o.guard = none) (s x : Operand)
    (ho : o.op = .call { callee := .builtin .append, args := #[s, x], argTypes := #[108, 108] }) {base : Nat} {v u : Value} {xss : List (List Int)} {S : List Nat} {xs : List Int} (hs : a.eval s = v) (h : OwnII w base v xss S)
    (b : Nat) (hx : a.eval x = .slice (some ⟨b, 0, none⟩) 1 1) (hc : w.cell? ⟨b, 0, none⟩ = some u) (hu : Own w base u xs) (hd : ∀ j, u.ownBlock = some j → j ∉ S) (hl : xss.length + 1 ≤ 4000000) (hbs : base ≤ w.heap.size)
    (k : ∀ g cap w' S', OwnII w' base (.slice (some ⟨g, 0, none⟩) (xss.length + 1) cap) (xss ++ [xs]) S' → Below base w w' → wpList Try.prog ops Q rest (a.put o.dst (.slice (some ⟨g, 0, none⟩) (xss.length + 1) cap)) w') : wpList Try.prog ops Q (o :: rest) a w := by
  obtain ⟨i0, hi, hz0, hz1, hz2⟩ := info_parts ss_info
  have hvr := lawII.range h
  have h1b := h
  obtain ⟨vs, Ss, r1, r2, r3, r4, r5⟩ := h
  obtain ⟨A, m, c, rfl⟩ := lawI.one (S := u.ownBlock.toList) ⟨hu, rfl⟩
  refine wpList_append_lies w hgd s x 108 ho base 23 i0 _ 1 24 Try.underlying108 hi hz0 hz1 hz2 rfl (by decide) v xss.length vs hs r1 ⟨b, 0, none⟩ 1 1 [.slice A m c] hx rfl
    (by intro j u hj; match j, hj with | 0, hj => (simp at hj; subst hj; simpa [Addr.add] using hc) | j + 1, hj => simp at hj) (by simp [Value.oneCell']) (by omega) (by unfold maxLen; omega) (by omega) hbs w.heap.size rfl ?_
  intro g cap w' q1 q2 q3 q4
  obtain ⟨S', o1, -⟩ := OwnRows.snoc lawI h1b (T := (Value.slice A m c).ownBlock.toList) ⟨hu, rfl⟩ (fun j hj => hd j (by simpa using hj)) vs Ss r1 r2 r3 r4 r5 q1 q2 q3
  exact k g cap w' S' o1 (Below.grown (Below.refl base w |>.mono (Nat.le_refl _)) q2 hbs (fun q hq => (hvr q (by rw [r4, hq]; simp)).1))
end Go.Proofs.Ytomnaabadohecaa
namespace Go.Proofs.Ytomnaabadohecaa
open Go.RowKit
/-! rows of rows of bools; all ports are kept -/
def encB (b : Bool) : List Value := [.bool b]
theorem encB_flat (xs : List Bool) : xs.flatMap encB = xs.map Value.bool := by
  induction xs with
  | nil => rfl
  | cons x xs ih => rw [List.flatMap_cons, ih]; rfl
def OwnB : World → Nat → Value → List Bool → List Nat → Prop := LeafR 4 1 encB
theorem lawB : RowLaw OwnB := leaf_law _ _ _
def OwnBB : World → Nat → Value → List (List Bool) → List Nat → Prop := OwnRows 90 OwnB
theorem lawBB : RowLaw OwnBB := rows_law _ lawB
theorem bool_info : (Try.prog.info? 4).map (fun i => (i.zero, i.size, i.bytes)) = some (some (.bool false), 1, 1) := by kernel_rfl
theorem rowB_info : (Try.prog.info? 90).map (fun i => (i.zero, i.size, i.bytes)) = some (some (.slice none 0 0), 1, 24) := by kernel_rfl
theorem OwnB.row {w : World} {base : Nat} {v : Value} {xs : List Bool} {S : List Nat} (h : OwnB w base v xs S) : w.ownsRow base 4 1 v xs.length (xs.map Value.bool) := by
  have := h.1
  rwa [encB_flat] at this
theorem OwnB.mk {w : World} {base : Nat} {v : Value} {xs : List Bool} (h : w.ownsRow base 4 1 v xs.length (xs.map Value.bool)) : OwnB w base v xs v.ownBlock.toList := ⟨by rw [encB_flat]; exact h, rfl⟩
theorem OwnB.cell {w : World} {base g c n : Nat} {xs : List Bool} {S : List Nat} {k : Nat} {x : Bool} (h : OwnB w base (.slice (some ⟨g, 0, none⟩) n c) xs S) (hk : xs[k]? = some x) : w.cell? ⟨g, k, none⟩ = some (.bool x) := by
  have h' := h.row
  obtain rfl := ownsRow_len h'
  have hlt : k < xs.length := lt_of_get hk
  rw [World.ownsRow.cellAt h' k (by omega)]; simp [hk]
theorem OwnB.set {w : World} {base g c n : Nat} {xs : List Bool} {S : List Nat} (k : Nat) (x : Bool) (h : OwnB w base (.slice (some ⟨g, 0, none⟩) n c) xs S) : OwnB (w.setCell ⟨g, k, none⟩ (.bool x)) base (.slice (some ⟨g, 0, none⟩) n c) (xs.set k x) S := by
  have hS := h.2
  have h' := h.row
  obtain rfl := ownsRow_len h'
  have := (World.ownsRow.stored h' k (.bool x)).1
  refine ⟨?_, hS⟩
  rw [encB_flat, List.length_set, List.map_set]
  exact this
/-- a row of bools, for reading -/
def BoolS (w : World) (v : Value) (xs : List Bool) : Prop :=
  ∃ (A : Option Addr) (c : Nat), v = .slice A xs.length c ∧ xs.length ≤ c ∧ c ≤ maxLen ∧ ∀ k x, xs[k]? = some x → ∃ b off, A = some ⟨b, off, none⟩ ∧ w.cell? ⟨b, off + k, none⟩ = some (.bool x)
def BoolSS (w : World) (v : Value) (xss : List (List Bool)) : Prop :=
  ∃ (A : Option Addr) (c : Nat), v = .slice A xss.length c ∧ xss.length ≤ c ∧ c ≤ maxLen ∧
    (∀ k xs, xss[k]? = some xs → ∃ b off u, A = some ⟨b, off, none⟩ ∧ w.cell? ⟨b, off + k, none⟩ = some u ∧ BoolS w u xs)
theorem BoolS.keep {w w' : World} {v : Value} {xs : List Bool} (h : BoolS w v xs) (hb : Below w.heap.size w w') : BoolS w' v xs := by
  obtain ⟨A, c, hv, hc, hm, hA⟩ := h
  refine ⟨A, c, hv, hc, hm, fun k x hk => ?_⟩
  obtain ⟨b, off, hA', h1⟩ := hA k x hk
  exact ⟨b, off, hA', bc hb h1⟩
theorem BoolSS.keep {w w' : World} {v : Value} {xs : List (List Bool)} (h : BoolSS w v xs) (hb : Below w.heap.size w w') : BoolSS w' v xs := by
  obtain ⟨A, c, hv, hc, hm, hA⟩ := h
  refine ⟨A, c, hv, hc, hm, fun k x hk => ?_⟩
  obtain ⟨b, off, u, hA', h1, h2⟩ := hA k x hk
  exact ⟨b, off, u, hA', bc hb h1, h2.keep hb⟩
theorem OwnB.read {w : World} {base : Nat} {v : Value} {xs : List Bool} {S : List Nat} (h : OwnB w base v xs S) : BoolS w v xs := by
  rcases ownsRow_cases h.row with ⟨rfl, h0⟩ | ⟨g, c, rfl, hb, hg, hc, hm⟩
  · obtain rfl : xs = [] := List.eq_nil_of_length_eq_zero h0
    exact ⟨none, 0, rfl, Nat.le_refl _, Nat.zero_le _, fun k x hk => by simp at hk⟩
  · exact ⟨_, c, rfl, hc, hm, fun k x hk => ⟨g, 0, rfl, by rw [Nat.zero_add]; exact h.cell hk⟩⟩
theorem OwnBB.read {w : World} {base : Nat} {v : Value} {ess : List (List Bool)} {S : List Nat} (h : OwnBB w base v ess S) : BoolSS w v ess := by
  obtain ⟨vs, Ss, h1, h2, h3, h4, h5⟩ := h
  rcases ownsRow_cases h1 with ⟨rfl, h0⟩ | ⟨g, c, rfl, hb, hg, hc, hm⟩
  · obtain rfl : ess = [] := List.eq_nil_of_length_eq_zero h0
    exact ⟨none, 0, rfl, Nat.le_refl _, Nat.zero_le _, fun k x hk => by simp at hk⟩
  · have hvl : vs.length = ess.length := by simpa using h1.1
    refine ⟨_, c, rfl, hc, hm, fun k x hk => ?_⟩
    have hlt := lt_of_get hk
    obtain ⟨u, hu⟩ := getx vs k (by omega)
    obtain ⟨T, hT⟩ := getx Ss k (by omega)
    exact ⟨g, 0, u, rfl, by rw [Nat.zero_add, h1.cellAt (cap := c) _ (by omega)]; exact hu, OwnB.read (h3 k u x T hu hk hT)⟩
theorem ownBB_nil (w : World) (base : Nat) : OwnBB w base (.slice none 0 0) [] [] := ⟨[], [], World.ownsRow_nil w base _ _, rfl, fun k u x T h => by simp at h, by simp [Value.ownBlock], by simp⟩
section
variable {ops : Array Oper} {rest : List Oper} {o : Oper} {a : Act} {Q : Exit → Act → World → Prop}
theorem mk_bools (w : World) (hg : o.guard = none) (l c : Operand) (hop : o.op = Op.makeSlice 90 l c) (L C : Int) (n : Nat) (hl : a.eval l = .int .i64 L) (hc : a.eval c = .int .i64 C) (hL : L = (n : Int)) (hC : C = (n : Int)) (hn : n ≤ 17592186044416)
    (hK : ∀ w', OwnB w' w.heap.size (.slice (some ⟨w.heap.size, 0, none⟩) n n) (List.replicate n false) [w.heap.size] → Below w.heap.size w w' → wpList Try.prog ops Q rest (a.put o.dst (.slice (some ⟨w.heap.size, 0, none⟩) n n)) w') : wpList Try.prog ops Q (o :: rest) a w := by
  obtain ⟨i0, hi, hz0, hz1, hz2⟩ := info_parts bool_info
  refine wpList_make_full w hg l c 90 hop w.heap.size 4 i0 (.bool false) 1 Try.underlying90 hi hz0 hz1 .i64 .i64 L C n hl hc hL hC (by rw [hz2]; omega) (by unfold maxLen; omega) (Nat.le_refl _) ?_
  intro w' ho hgr
  have ho' : OwnB w' w.heap.size (.slice (some ⟨w.heap.size, 0, none⟩) n n) (List.replicate n false) (Value.slice (some ⟨w.heap.size, 0, none⟩) n n).ownBlock.toList := by
    refine OwnB.mk ?_
    rw [List.length_replicate, List.map_replicate]
    rw [show (Value.bool false).cells = #[Value.bool false] from rfl, toList_madeCells_one] at ho
    simpa using ho
  exact hK w' ho' (below_grown hgr)
theorem app_rowBB {w : World} (hgd : o.guard = none) (s x : Operand)
    (ho : o.op = .call { callee := .builtin .append, args := #[s, x], argTypes := #[88, 88] }) {base : Nat} {v u : Value} {xss : List (List Bool)} {S T : List Nat} {xs : List Bool} (hs : a.eval s = v) (h : OwnBB w base v xss S)
    (b : Nat) (hx : a.eval x = .slice (some ⟨b, 0, none⟩) 1 1) (hc : w.cell? ⟨b, 0, none⟩ = some u) (hu : OwnB w base u xs T) (hd : ∀ j ∈ T, j ∉ S) (hl : xss.length + 1 ≤ 4000000) (hbs : base ≤ w.heap.size)
    (k : ∀ g cap w' S', OwnBB w' base (.slice (some ⟨g, 0, none⟩) (xss.length + 1) cap) (xss ++ [xs]) S' → Below base w w' → wpList Try.prog ops Q rest (a.put o.dst (.slice (some ⟨g, 0, none⟩) (xss.length + 1) cap)) w') : wpList Try.prog ops Q (o :: rest) a w := by
  obtain ⟨i0, hi, hz0, hz1, hz2⟩ := info_parts rowB_info
  have hvr := lawBB.range h
  have h1b := h
  obtain ⟨vs, Ss, r1, r2, r3, r4, r5⟩ := h
  obtain ⟨A, m, c, rfl⟩ := lawB.one hu
  refine wpList_append_lies w hgd s x 88 ho base 90 i0 _ 1 24 Try.underlying88 hi hz0 hz1 hz2 rfl (by decide) v xss.length vs hs r1 ⟨b, 0, none⟩ 1 1 [.slice A m c] hx rfl
    (by intro j u hj; match j, hj with | 0, hj => (simp at hj; subst hj; simpa [Addr.add] using hc) | j + 1, hj => simp at hj) (by simp [Value.oneCell']) (by omega) (by unfold maxLen; omega) (by omega) hbs w.heap.size rfl ?_
  intro g cap w' q1 q2 q3 q4
  obtain ⟨S', o1, -⟩ := OwnRows.snoc lawB h1b hu hd vs Ss r1 r2 r3 r4 r5 q1 q2 q3
  exact k g cap w' S' o1 (Below.grown (Below.refl base w |>.mono (Nat.le_refl _)) q2 hbs (fun q hq => (hvr q (by rw [r4, hq]; simp)).1))
end
def allTo (n : Net) (k : Nat) : List (List Bool) := (n.ends.take k).map fun es => List.replicate es.length true
theorem allTo_succ {n : Net} {k : Nat} {es : List (Int × Int)} (h : n.ends[k]? = some es) : allTo n (k + 1) = allTo n k ++ [List.replicate es.length true] := by
  unfold allTo
  rw [take_snoc h, List.map_append]
  rfl
theorem allTo_len {n : Net} {k : Nat} (h : k ≤ n.ends.length) : (allTo n k).length = k := by simp [allTo]; omega
set_option maxRecDepth 100000 in
set_option maxHeartbeats 8000000 in
theorem neAll_any (ve vi vn : Value) (n : Net) (w : World) (h : NetIn w ve vi vn n) (hn : netOk n = true) :
    Calls Try.prog 72 #[.agg #[ve, vi, vn]] w fun e w' => ∃ u S, e = .returned u ∧ OwnBB w' w.heap.size u (allTo n n.ends.length) S ∧ Below w.heap.size w w' := by
  have hnl := netOk_len hn
  have hnl1 := hnl.1
  have hnl2 := hnl.2
  have Hn := Lib.hid hn
  obtain ⟨w0, hw0⟩ : ∃ w0, w0 = (w).alloc (.cells #[ve, vi, vn] 31) := ⟨_, rfl⟩
  have hb0 : Below w.heap.size w w0 := by rw [hw0]; exact ((Below.refl _ _).alloc (by simp) _)
  have H := Lib.hid (h.keep hb0)
  obtain ⟨h1, h2, h3⟩ := h.keep hb0
  obtain ⟨A, c, rfl, hlc, hm, hA⟩ := h1
  obtain ⟨A2, c2, rfl, _, hm2, _⟩ := h2
  obtain ⟨A3, c3, rfl, _, hm3, _⟩ := h3
  unfold maxLen at hm hm2 hm3
  have p00 : ∀ W, Since w0 W → W.cell? ⟨w.heap.size, 0, none⟩ = some (.slice A n.ends.length c) := have_cell (by rw [hw0]; simp)
  have p01 : ∀ W, Since w0 W → W.cell? ⟨w.heap.size, 1, none⟩ = some (.slice A2 n.ids.length c2) := have_cell (by rw [hw0]; simp)
  have p02 : ∀ W, Since w0 W → W.cell? ⟨w.heap.size, 2, none⟩ = some (.slice A3 n.inputs.length c3) := have_cell (by rw [hw0]; simp)
  have Hb0 := Lib.hid hb0
  have Hw0 := Lib.hid hw0
  have HA := Lib.hid hA
  clear hA h
  clear hb0 hw0
  have hs0 : Since w0 w0 := since_refl _
  clear hn hnl
  go_enter Try.func72, Try.ntmps72
  go_upto_region 1 with (fail)
  rw [← Hw0.out]
  go_wp2
  go_loopw [3, 11] (fun u i wr => ∃ (k : Nat) (S : List Nat), k ≤ n.ends.length ∧ i = .int .i64 k ∧ OwnBB wr w0.heap.size u (allTo n k) S ∧ Since w0 wr) (fun _ i _ => n.ends.length - (intOf i).toNat)
  case atStart => exact ⟨0, [], Nat.zero_le _, rfl, ownBB_nil _ _, hs0⟩
  case round =>
    obtain ⟨k, S, hk, rfl, ho, hsr⟩ := hrel
    have Ho := Lib.hid ho
    have Hs := Lib.hid hsr
    clear hs0 ho
    by_cases hlt : k < n.ends.length
    · obtain ⟨es, hes⟩ := getx n.ends k hlt
      have hes6 := (netOk_row Hn.out hes).1
      obtain ⟨b, offr, cr, ur, hA1, hkr, hc1, hro⟩ := row_at H.out.es hes
      cases hA1
      obtain ⟨A1, z1, rfl, hz1, hz2, hA1⟩ := hro
      unfold maxLen at hz2
      have r1 := lift_cell (have_cell hc1) Hs.out
      have q5 := r1 wr (since_refl _)
      have m4 : IntKind.i64.wrap ((k : Int) + 1) = (k : Int) + 1 := wr64 _ (by omega) (by omega)
      have Hnx := Lib.hid (allTo_succ hes)
      have Hlen : Hid ((allTo n k).length + 1 ≤ 4000000) := by show _ ≤ _; rw [allTo_len hk]; omega
      clear hes hc1 hA1
      go_wp2_with (at_make; refine mk_bools _ rfl _ _ rfl _ _ es.length rfl rfl rfl rfl (by omega) ?_; intro w1 ho1 hb1)
      obtain ⟨g, hg⟩ : ∃ g, g = wr.heap.size := ⟨_, rfl⟩
      rw [← hg] at ho1 ⊢
      have Hg := Lib.hid hg
      have Ho1 : Hid (OwnB w1 g (.slice (some ⟨g, 0, none⟩) es.length es.length) (List.replicate 0 true ++ List.replicate (es.length - 0) false) [g]) := by show OwnB _ _ _ _ _; simpa using ho1
      have HR1 := Lib.hid (lawBB.keep Ho.out hb1)
      have Hs1 : Hid (Since w0 w1) := Hs.out.after hb1
      have HSg : Hid (∀ j ∈ S, j < g) := fun j hj => by rw [hg]; exact (lawBB.range Ho.out j hj).2
      have Hg0 : Hid (w0.heap.size ≤ g) := by show _ ≤ _; rw [hg]; exact Hs.out.below.size
      clear ho1 hb1 hg hsr
      go_wp2
      go_loopw [20] (fun i wq => ∃ j : Nat, j ≤ es.length ∧ i = .int .i64 j ∧ OwnB wq g (.slice (some ⟨g, 0, none⟩) es.length es.length) (List.replicate j true ++ List.replicate (es.length - j) false) [g] ∧ OwnBB wq w0.heap.size u3 (allTo n k) S ∧ Since w0 wq) (fun i _ => es.length - (intOf i).toNat)
      case atStart => exact ⟨0, Nat.zero_le _, rfl, Ho1.out, HR1.out, Hs1.out⟩
      case round =>
        obtain ⟨j, hj, rfl, hob, hobb, hsq⟩ := hrel
        have Hob := Lib.hid hob
        have Hobb := Lib.hid hobb
        have Hsq := Lib.hid hsq
        clear hob hobb
        by_cases hlj : j < es.length
        · have m3 : IntKind.i64.wrap ((j : Int) + 1) = (j : Int) + 1 := wr64 _ (by omega) (by omega)
          obtain ⟨y, hy⟩ := getx (List.replicate j true ++ List.replicate (es.length - j) false) j (by simp; omega)
          have cz := Hob.out.cell hy
          have fz := ownsRow_free Hob.out.row j
          have He : Hid ((List.replicate j true ++ List.replicate (es.length - j) false).set j true = List.replicate (j + 1) true ++ List.replicate (es.length - (j + 1)) false) := by
            show _ = _
            rw [List.set_append_right _ _ (by simp), List.length_replicate, Nat.sub_self, show es.length - j = (es.length - (j + 1)) + 1 by omega, List.replicate_succ, List.set_cons_zero, List.replicate_succ', List.append_assoc]
            rfl
          clear hy hsq
          go_wp2
          go_roundw
          case rel => exact ⟨j + 1, by omega, by first | rfl | go_num, by rw [← He.out]; exact Hob.out.set j true, lawBB.stable Hobb.out (fun i hi => Below.heap_setCell wr _ _ i (by have := HSg.out i hi; show i ≠ g; omega)), Below.setCell Hsq.out Hg0.out _⟩
          case measure => simp [intOf]; omega
        · obtain rfl : j = es.length := by omega
          have HB2 : Hid (OwnB wr w0.heap.size (.slice (some ⟨g, 0, none⟩) es.length es.length) (List.replicate es.length true) [g]) := by
            have := Hob.out
            rw [Nat.sub_self, List.replicate_zero, List.append_nil] at this
            exact lawB.mono this Hg0.out
          obtain ⟨wA, hwA⟩ : ∃ wA, wA = wr.alloc (.cells #[.slice (some ⟨g, 0, none⟩) es.length es.length] 90) := ⟨_, rfl⟩
          have HsA : Hid (Since w0 wA) := by rw [hwA]; exact since_alloc _ Hsq.out
          have HBA : Hid (OwnB wA w0.heap.size (.slice (some ⟨g, 0, none⟩) es.length es.length) (List.replicate es.length true) [g]) := by rw [hwA]; exact lawB.keep HB2.out (below_alloc _ _)
          have HOA : Hid (OwnBB wA w0.heap.size u3 (allTo n k) S) := by rw [hwA]; exact lawBB.keep Hobb.out (below_alloc _ _)
          have HcA : Hid (wA.cell? ⟨wr.heap.size, 0, none⟩ = some (.slice (some ⟨g, 0, none⟩) es.length es.length)) := by show _ = _; rw [hwA]; simp
          have HwA := Lib.hid hwA
          have HD : Hid (∀ j ∈ [g], j ∉ S) := fun j hj hS => by have := HSg.out j hS; simp at hj; omega
          clear hwA hsq
          go_wp2_with (at_builtin; rw [← HwA.out]; refine app_rowBB rfl _ _ rfl rfl HOA.out wr.heap.size rfl HcA.out HBA.out HD.out Hlen.out HsA.out.below.size ?_; intro g3 c3' w3 S3 ho3 hb3; have Ho3 := Lib.hid ho3; have Hb3 := Lib.hid hb3; clear ho3 hb3)
          go_wp2
          go_roundw
          case rel => exact ⟨k + 1, S3, by omega, by first | rfl | go_num, by rw [Hnx.out]; exact Ho3.out, Below.trans HsA.out Hb3.out⟩
          case measure => simp [intOf]; omega
    · obtain rfl : k = n.ends.length := by omega
      obtain ⟨A9, m9, c9, rfl⟩ := lawBB.one Ho.out
      clear hk hlt hsr
      go_wp2
      go_ret
      exact ⟨_, _, rfl, lawBB.mono Ho.out Hb0.out.size, Since.after Hb0.out Hs.out⟩
end Go.Proofs.Ytomnaabadohecaa
