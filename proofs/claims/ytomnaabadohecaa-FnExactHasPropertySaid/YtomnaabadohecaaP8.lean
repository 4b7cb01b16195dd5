/- Parts of the proof: walks of functions and plain laws. -/
import Derived.Test.YtomnaabadohecaaP5
import Derived.Lib.SliceRun
import Derived.Test.YtomnaabadohecaaP2
import Derived.Test.YtomnaabadohecaaP6
import Derived.Test.YtomnaabadohecaaP7
namespace Go.Proofs.Ytomnaabadohecaa
open Go.RowKit
theorem Own.cut {w : World} {base g n c : Nat} {xs : List Int} (h : Own w base (.slice (some ⟨g, 0, none⟩) n c) xs) (i : Nat) (hi : i ≤ n) : Own w base (.slice (some ⟨g, 0, none⟩) i c) (xs.take i) := by
  obtain rfl := h.len
  unfold Own at *
  have hl : (xs.take i).length = i := by simp; omega
  rw [hl]
  rcases h.2 with ⟨h', _⟩ | ⟨g', cap, cur, h', hb, hg, hnc, hm, hcs, htake⟩
  · simp at h'
  · simp only [Value.slice.injEq, Option.some.injEq, Addr.mk.injEq, and_true, true_and] at h'
    obtain ⟨rfl, rfl, rfl⟩ := h'
    refine ⟨by simp; omega, .inr ⟨g, c, cur, rfl, hb, hg, by omega, hm, hcs, ?_⟩⟩
    rw [List.map_take, ← htake, List.take_take]
    congr 1
    simp; omega
theorem Own.clear {base g n c : Nat} (m : Nat) : ∀ {w : World} {xs : List Int} (o : Nat), Own w base (.slice (some ⟨g, 0, none⟩) n c) xs → ∃ ys, Own (w.setCells g o (List.replicate m (.int .i64 0))) base (.slice (some ⟨g, 0, none⟩) n c) ys ∧ ys.take o = xs.take o := by
  induction m with
  | zero => intro w xs o h; exact ⟨xs, h, rfl⟩
  | succ m ih =>
    intro w xs o h
    obtain ⟨ys, h1, h2⟩ := ih (o + 1) (h.set (k := o) 0)
    refine ⟨ys, h1, ?_⟩
    have := congrArg (List.take o) h2
    rw [List.take_take, List.take_take, Nat.min_eq_left (by omega)] at this
    rw [this]
    apply List.ext_getElem?
    intro j
    rw [List.getElem?_take, List.getElem?_take]
    split
    · rw [List.getElem?_set_ne (by omega)]
    · rfl
theorem since_cells {w0 : World} {g : Nat} (hg : w0.heap.size ≤ g) (vs : List Value) : ∀ (w : World) (o : Nat), Since w0 w → Since w0 (w.setCells g o vs) := by
  induction vs with
  | nil => intro w o h; exact h
  | cons v vs ih => intro w o h; exact ih _ _ (Below.setCell h hg v)
def keptB (p : Int → Bool) (xs : List Int) : List Int := xs.filter fun x => !p x
theorem kept_le (p : Int → Bool) (xs : List Int) : (keptB p xs).length ≤ xs.length := List.length_filter_le _ _
end Go.Proofs.Ytomnaabadohecaa
namespace Go.Proofs.Ytomnaabadohecaa
open Go.RowKit
theorem Own.grown {w w' : World} {base : Nat} {v : Value} {xs : List Int} {row : Option Nat} (h : Own w base v xs) (hg : w.grownBy w' row) (hd : ∀ q, v.ownBlock = some q → row ≠ some q) : Own w' base v xs :=
  ownsRow_stable h fun q hq => hg.block q (World.ownsRow.lt h q (by simpa using hq)).2 (fun e => hd q (by simpa using hq) e.symm)
/-- append of a whole row of integers -/
theorem app_ints {w : World} {ops : Array Oper} {rest : List Oper} {o : Oper} {a : Act} {Q : Exit → Act → World → Prop} (hgd : o.guard = none) (s x : Operand)
    (ho : o.op = .call { callee := .builtin .append, args := #[s, x], argTypes := #[23, 23] }) {base : Nat} {v : Value} {xs : List Int} (hs : a.eval s = v) (h : Own w base v xs) (b off c : Nat) (ys : List Int)
    (hx : a.eval x = .slice (some ⟨b, off, none⟩) ys.length c) (hc : ∀ j y, ys[j]? = some y → w.cell? ⟨b, off + j, none⟩ = some (.int .i64 y)) (hy : 0 < ys.length) (hl : xs.length + ys.length ≤ 17592186044416) (hbase : base ≤ w.heap.size)
    (k : ∀ g cap w', Own w' base (.slice (some ⟨g, 0, none⟩) (xs.length + ys.length) cap) (xs ++ ys) → w.grownBy w' v.ownBlock → (v.ownBlock = some g ∨ g = w.heap.size) → g < w'.heap.size → wpList Try.prog ops Q rest (a.put o.dst (.slice (some ⟨g, 0, none⟩) (xs.length + ys.length) cap)) w') : wpList Try.prog ops Q (o :: rest) a w := by
  obtain ⟨i0, hi, hz0, hz1, hz2⟩ := info_parts int_info
  refine wpList_append_lies w hgd s x 23 ho base 3 i0 (.int .i64 0) 1 8 Try.underlying23 hi hz0 hz1 hz2 rfl (by decide) v xs.length (xs.map (Value.int .i64)) hs h ⟨b, off, none⟩ ys.length c (ys.map (Value.int .i64)) hx (by simp)
    (by
      intro j u hj
      rw [List.getElem?_map] at hj
      cases hyj : ys[j]? with
      | none => rw [hyj] at hj; simp at hj
      | some y =>
        rw [hyj] at hj
        simp at hj
        subst hj
        rw [Go.Addr.add_lit]
        exact hc j y hyj) (by simp [Value.oneCell']) hy (by unfold maxLen; omega) (by omega) hbase w.heap.size rfl ?_
  intro g cap w' h1 h2 h3 h4
  refine k g cap w' ?_ h2 h3 h4
  unfold Own
  simpa using h1
set_option maxHeartbeats 2000000 in
theorem l1Own_any (v : Value) (xs : List Int) (w : World) (h : IntS w v xs) (h0' : 0 < xs.length) (hl : xs.length ≤ 17592186044416) :
    Calls Try.prog 88 #[v] w fun e w' => ∃ u, e = .returned u ∧ Own w' w.heap.size u xs ∧ Below w.heap.size w w' := by
  obtain ⟨A, c, rfl, hlc, hm, hA⟩ := h
  unfold maxLen at hm
  have ho := own_lit w [] (by simp [maxLen])
  simp only [List.map_nil, List.length_nil] at ho
  obtain ⟨y0, hy0⟩ := getx xs 0 (by omega)
  obtain ⟨b, off, rfl, _⟩ := hA 0 y0 hy0
  have HA : Hid (∀ j y, xs[j]? = some y → w.cell? ⟨b, off + j, none⟩ = some (.int .i64 y)) := fun j y hj => by
    obtain ⟨b', off', e, hc⟩ := hA j y hj
    cases e
    exact hc
  have Ho := Lib.hid ho
  clear hA hy0 ho
  go_enter Try.func88, Try.ntmps88
  go_wp2_with (at_builtin; refine app_ints rfl _ _ rfl rfl Ho.out b off c xs rfl (fun j y hj => bc (below_alloc _ _) (HA.out j y hj)) h0' (by simpa using hl) (by simp) ?_; intro g cc w2 ho2 hg2 _ _)
  simp only [List.length_nil, Nat.zero_add, List.nil_append] at ho2 ⊢
  have Ho2 := Lib.hid ho2
  have Hb2 : Hid (Below w.heap.size w w2) := (below_alloc w _).grown hg2 (by simp) (fun j hj => (World.ownsRow.lt Ho.out j hj).1)
  clear ho2 hg2
  go_wp2
  go_ret
  exact ⟨_, rfl, Ho2.out, Hb2.out⟩
end Go.Proofs.Ytomnaabadohecaa
namespace Go.Proofs.Ytomnaabadohecaa
open Go Go.RowKit
/-! A region that draws its order: reads, a call that makes a row of integers, a new variable of type int, a slot for the row. -/
def I1 (W : World) (b : Nat) (x : Int) : Prop := W.heap[b]? = some (.cells #[.int .i64 x] 3)
theorem I1.cells {W : World} {b : Nat} {x : Int} (h : I1 W b x) : W.cell? ⟨b, 0, none⟩ = some (.int .i64 x) ∧ W.frozen? ⟨b, 0, none⟩ = false := by
  unfold I1 at h
  simp [World.cell?, World.frozen?, h]
theorem I1.lt {W : World} {b : Nat} {x : Int} (h : I1 W b x) : b < W.heap.size := (Array.getElem?_eq_some_iff.1 h).1
theorem I1.since {W W' : World} {b : Nat} {x : Int} (h : I1 W b x) (hs : Since W W') : I1 W' b x := (hs.below.block b h.lt).trans h
theorem I1.set {W : World} {b : Nat} {x : Int} (h : I1 W b x) (y : Int) : I1 (W.setCell ⟨b, 0, none⟩ (.int .i64 y)) b y := by
  unfold I1 at *
  simp [World.setCell, Array.getElem?_modify, h]
theorem I1.new (W : World) (x : Int) : I1 (W.alloc (.cells #[.int .i64 x] 3)) W.heap.size x := by
  show (W.heap.push _)[W.heap.size]? = _
  rw [Array.getElem?_push_size]
theorem int_zero (ev : Operand → Value) (d : Option Tmp) (ty : TypeId) (pos : String) (af : Array Edge) (W : World) : (execOp ev ⟨d, .alloc 3, ty, pos, af, none⟩).run Try.prog W = .ok (.value (ptr W.heap.size)) (W.alloc (.cells #[.int .i64 0] 3)) := by
  unfold ptr
  go_simp
theorem int_store (ev : Operand → Value) (ty : TypeId) (pos : String) (af : Array Edge) (W : World) (p x : Operand) (b : Nat) (q1 : Value) (y1 : Int) (h1 : ev p = ptr b) (h2 : ev x = .int .i64 y1) (h3 : W.cell? ⟨b, 0, none⟩ = some q1) (h5 : W.frozen? ⟨b, 0, none⟩ = false) :
    (execOp ev ⟨none, .store 3 p x, ty, pos, af, none⟩).run Try.prog W = .ok .skip (W.setCell ⟨b, 0, none⟩ (.int .i64 y1)) := by
  unfold ptr at h1
  go_simp
theorem own_setCell {W : World} {base b : Nat} {u : Value} {xs : List Int} (h : Own W base u xs) (hd : u.ownBlock ≠ some b) (v : Value) : Own (W.setCell ⟨b, 0, none⟩ v) base u xs :=
  ownsRow_stable h fun k hk => Below.heap_setCell W _ v k (fun e => hd (by simp at hk; rw [hk, e]))
section
variable {ops : Array Oper}
theorem wp_region_near {Q : Exit → Act → World → Prop} {rid : Nat} {a : Act} {w w0 : World} (m d x c s : Nat) (y : Int) (xs : List Int) (hm : Try.prog.follows .mixedOrders = true) (hf : flowB ops (m + 4) = true) (hsz : ops.size = m + 4) (hs0 : Since w0 w) {oc : Oper} (s0 : ops[m]? = some oc) (hoc : oc.dst = some c)
    (s1 : ∃ ty pos af, ops[m + 1]? = some ⟨some d, .alloc 3, ty, pos, af, none⟩) (s2 : ∃ ty pos af, ops[m + 2]? = some ⟨none, .store 3 (.tmp d) (.tmp x), ty, pos, af, none⟩) (s3 : ∃ ty pos af, ops[m + 3]? = some ⟨some s, .assign (.tmp c), ty, pos, af, none⟩)
    (hx : x ≠ d ∧ x ≠ c ∧ x ≠ s) (hd : d < a.tmps.size) (hc : c < a.tmps.size)
    (h : PFlow Try.prog ops w0 (fun A => A.eval (.tmp x) = .int .i64 y ∧ (Region.wanted oc (yielded ops A.tmps) = true ∧ ∀ W, Since w0 W → GivesAny Try.prog (fun W' u => Own W' W.heap.size u xs) oc A W) ∧
      ∀ u b W, Since w0 W → Own W w0.heap.size u xs → I1 W b y → Q .normal (((A.put (some c) u).put (some d) (ptr b)).put (some s) u) W) (ops.toList.take m) a) : (Code.region rid ops true).wp Try.prog Q a w := by
  have hok := flow_ok hf
  obtain ⟨vals, F, h0, ⟨hx1, ⟨hw1, hg1⟩, hfin⟩, hst'⟩ := pflow_frames _ a h
  have hlen : (ops.toList.take m).length = m := by simp; omega
  rw [hlen] at hx1 hw1 hg1 hfin
  have hget : ∀ i o, i < m → ops[i]? = some o → (ops.toList.take m)[i]? = some o := fun i o hi ho => by
    rw [List.getElem?_take, if_pos hi]; simpa using ho
  obtain ⟨ty1, ps1, af1, s1⟩ := s1
  obtain ⟨ty2, ps2, af2, s2⟩ := s2
  obtain ⟨ty3, ps3, af3, s3⟩ := s3
  have hF0 : ∀ i, i ≤ m → FrameIs a ops vals (fun j => j < i) (F i) := by
    intro i
    induction i with
    | zero => intro _; rw [h0]; exact ⟨rfl, rfl, fun j _ _ hj => absurd hj (by omega), fun _ _ => rfl⟩
    | succ i ih =>
      intro hi
      have hi' : i < ops.size := by omega
      have ho : ops[i]? = some ops[i] := Array.getElem?_eq_getElem hi'
      rw [(hst' i _ (hget i _ (by omega) ho)).2]
      exact ((ih (by omega)).put ho (fun j oj d hj hoj hd hd2 => by
        have := hok.dsts i _ (by omega) ho j oj (by omega) hoj d hd hd2
        omega)).same (fun j => by show (j < i ∨ j = i) ↔ j < i + 1; omega)
  let V : Value → Nat → Nat → Value := fun u b j => if j = m then u else if j = m + 1 then ptr b else if j = m + 3 then u else vals j
  have v0 : ∀ u b, V u b m = u := fun u b => if_pos rfl
  have v1 : ∀ u b, V u b (m + 1) = ptr b := fun u b => by show (if m + 1 = m then _ else if m + 1 = m + 1 then _ else _) = _; rw [if_neg (by omega), if_pos rfl]
  have v3 : ∀ u b, V u b (m + 3) = u := fun u b => by show (if m + 3 = m then _ else if m + 3 = m + 1 then _ else if m + 3 = m + 3 then _ else _) = _; rw [if_neg (by omega), if_neg (by omega), if_pos rfl]
  have vv : ∀ u b j, j < m → V u b j = vals j := fun u b j hj => by show (if j = m then _ else if j = m + 1 then _ else if j = m + 3 then _ else vals j) = _; rw [if_neg (by omega), if_neg (by omega), if_neg (by omega)]
  have hF : ∀ u b i, i ≤ m → FrameIs a ops (V u b) (fun j => j < i) (F i) := fun u b i hi => (hF0 i hi).vals (fun j hj => (vv u b j (by omega)).symm)
  refine wp_region_inv hm hok.back (fun D a' W => Since w0 W ∧ ∃ u b, FrameIs a ops (V u b) D a' ∧ (D m → Own W w0.heap.size u xs) ∧ (D (m + 1) → w0.heap.size ≤ b ∧ (D (m + 2) → I1 W b y) ∧ (¬ D (m + 2) → I1 W b 0)) ∧ (D m → D (m + 1) → u.ownBlock ≠ some b)) ?_ ?_ ?_
  · exact ⟨since_drew hs0, undef, 0, ⟨rfl, rfl, fun j _ _ hj => hj.elim, fun _ _ => rfl⟩, fun h => h.elim, fun h => h.elim, fun h => h.elim⟩
  · rintro D a' W i o ⟨hW, u, b, hfr, hO, hB, hne⟩ ho hDi hdep hcl
    have hin : i < m + 4 := by have := (Array.getElem?_eq_some_iff.1 ho).1; omega
    have look : ∀ t ∈ o.looksAt ops, ∀ j oj, ops[j]? = some oj → oj.dst = some t → D j ∧ j < i := fun t ht j oj hoj hd => by
      have hjn : j < m + 4 := by have := (Array.getElem?_eq_some_iff.1 hoj).1; omega
      have := hok.looks i o hin ho t ht j oj hjn hoj hd
      exact ⟨hdep j this, hok.back i o ho j this⟩
    have dist : ∀ j oj d, D j → ops[j]? = some oj → o.dst = some d → oj.dst ≠ some d := fun j oj d hj hoj hd hd2 => by
      have hjn : j < m + 4 := by have := (Array.getElem?_eq_some_iff.1 hoj).1; omega
      have := hok.dsts i o hin ho j oj hjn hoj d hd hd2
      subst this
      exact hDi hj
    have old : ∀ j, (D j ∨ j = i) → j ≠ i → D j := fun j h hj => h.elim (fun h => h) fun e => absurd e hj
    rcases Nat.lt_or_ge i m with him | him
    · obtain ⟨⟨hw, hrun⟩, -⟩ := hst' i o (hget i o him ho)
      obtain ⟨he, hw'⟩ := agree_exec (ops := ops) (a' := a') (A := F i) (fun t ht => hfr.agree (hF u b i (by omega)) t (fun j oj hj hoj hd => look t ht j oj hoj hd)) (fun cs b => hok.nosel i o cs b ho)
      rw [if_pos (hw'.trans hw)]
      unfold Oper.wp
      rw [he, hrun W hW]
      refine ⟨hW, u, b, ?_, fun h => hO (old _ h (by omega)), fun h => ?_, fun h h' => hne (old _ h (by omega)) (old _ h' (by omega))⟩
      · have := hfr.put (i := i) ho dist
        rwa [vv u b i him] at this
      · obtain ⟨q1, q2, q3⟩ := hB (old _ h (by omega))
        exact ⟨q1, fun h => q2 (old _ h (by omega)), fun h => q3 fun hh => h (.inl hh)⟩
    · obtain rfl | rfl | rfl | rfl : i = m ∨ i = m + 1 ∨ i = m + 2 ∨ i = m + 3 := by omega
      · rw [s0] at ho; cases ho
        obtain ⟨he, hw'⟩ := agree_exec (ops := ops) (a' := a') (A := F i) (fun t ht => hfr.agree (hF u b i (Nat.le_refl _)) t (fun j oj hj hoj hd => look t ht j oj hoj hd)) (fun cs b => hok.nosel i _ cs b s0)
        rw [if_pos (hw'.trans hw1)]
        unfold Oper.wp
        rw [he]
        have hgv := hg1 W hW
        unfold GivesAny at hgv
        have n3 : ¬ D (i + 3) := fun h => hDi (hcl _ _ h s3 _ (hok.looks (i + 3) _ (by omega) s3 c (by simp [Oper.looksAt, Op.operands]) i _ (by omega) s0 hoc))
        have next : ∀ u' W', Own W' W.heap.size u' xs → Since W W' → Since w0 W' ∧ ∃ u b, FrameIs a ops (V u b) (fun j => D j ∨ j = i) (a'.put oc.dst u') ∧ ((D i ∨ i = i) → Own W' w0.heap.size u xs) ∧ ((D (i + 1) ∨ i + 1 = i) → w0.heap.size ≤ b ∧ ((D (i + 2) ∨ i + 2 = i) → I1 W' b y) ∧ (¬ (D (i + 2) ∨ i + 2 = i) → I1 W' b 0)) ∧ ((D i ∨ i = i) → (D (i + 1) ∨ i + 1 = i) → u.ownBlock ≠ some b) := fun u' W' hr hs => by
          refine ⟨hW.after hs, u', b, ?_, fun _ => hr.mono hW.below.size, fun h => ?_, fun _ h => ?_⟩
          · have := (hfr.vals2 (v' := V u' b) (fun j hjn hj => by
              rcases Nat.lt_or_ge j i with h | h
              · rw [vv _ _ _ h, vv _ _ _ h]
              · obtain rfl | rfl | rfl | rfl : j = i ∨ j = i + 1 ∨ j = i + 2 ∨ j = i + 3 := by omega
                · exact absurd hj hDi
                · rw [v1, v1]
                · show (if i + 2 = i then _ else if i + 2 = i + 1 then _ else if i + 2 = i + 3 then _ else vals (i + 2)) = (if i + 2 = i then _ else if i + 2 = i + 1 then _ else if i + 2 = i + 3 then _ else vals (i + 2))
                  rw [if_neg (by omega), if_neg (by omega), if_neg (by omega), if_neg (by omega), if_neg (by omega), if_neg (by omega)]
                · exact absurd hj n3)).put (i := i) s0 dist
            rwa [v0] at this
          · obtain ⟨q1, q2, q3⟩ := hB (old _ h (by omega))
            exact ⟨q1, fun h => (q2 (old _ h (by omega))).since hs, fun h => (q3 fun hh => h (.inl hh)).since hs⟩
          · obtain ⟨q1, q2, q3⟩ := hB (old _ h (by omega))
            have hbl : b < W.heap.size := by
              by_cases h2 : D (i + 2)
              · exact (q2 h2).lt
              · exact (q3 h2).lt
            intro e
            have := (World.ownsRow.lt hr b e).1
            omega
        generalize (execOp (F i).eval oc).run Try.prog W = r at hgv ⊢
        cases r with
        | ok nx W' =>
          cases nx with
          | value u' => exact next u' W' hgv.1 hgv.2
          | enter f args =>
            simp only at hgv
            rw [Oper.upon_enter]
            exact hgv.mono fun e W'' ⟨u', he', hr, hs⟩ => by subst he'; exact next u' W'' hr hs
          | _ => exact hgv.elim
        | halt x W' => exact hgv.elim
      · rw [s1] at ho; cases ho
        rw [if_pos (show Region.wanted (⟨some d, .alloc 3, ty1, ps1, af1, none⟩ : Oper) (yielded ops a'.tmps) = true from rfl)]
        unfold Oper.wp
        rw [int_zero]
        have n2 : ¬ D (m + 2) := fun h => hDi (hcl _ _ h s2 _ (hok.looks (m + 2) _ (by omega) s2 d (by simp [Oper.looksAt, Op.operands]) (m + 1) _ (by omega) s1 rfl))
        refine ⟨since_alloc _ hW, u, W.heap.size, ?_, fun h => (hO (old _ h (by omega))).since (since_alloc _ (since_refl _)), fun _ => ⟨hW.below.size, fun h => (n2 (old _ h (by omega))).elim, fun _ => I1.new W 0⟩, fun h _ e => ?_⟩
        · have := (hfr.vals2 (v' := V u W.heap.size) (fun j hjn hj => by
            rcases Nat.lt_or_ge j m with h | h
            · rw [vv _ _ _ h, vv _ _ _ h]
            · obtain rfl | rfl | rfl | rfl : j = m ∨ j = m + 1 ∨ j = m + 2 ∨ j = m + 3 := by omega
              · rw [v0, v0]
              · exact absurd hj hDi
              · exact absurd hj n2
              · rw [v3, v3])).put (i := m + 1) s1 dist
          rwa [v1] at this
        · have := (World.ownsRow.lt (hO (old _ h (by omega))) _ e).2
          omega
      · rw [s2] at ho; cases ho
        rw [if_pos (show Region.wanted (⟨none, .store 3 (.tmp d) (.tmp x), ty2, ps2, af2, none⟩ : Oper) (yielded ops a'.tmps) = true from rfl)]
        have hD1 : D (m + 1) := (look d (by simp [Oper.looksAt, Op.operands]) (m + 1) _ s1 rfl).1
        obtain ⟨q1, q2, q3⟩ := hB hD1
        have q := q3 hDi
        obtain ⟨c1, c2⟩ := q.cells
        have e1 : a'.eval (.tmp d) = ptr b := by
          have := hfr.on (m + 1) _ d hD1 s1 rfl hd
          simp only [Act.eval, Array.getD_eq_getD_getElem?, this, Option.getD_some]
          exact v1 u b
        have e2 : a'.eval (.tmp x) = .int .i64 y := by
          rw [← hx1]
          have := hfr.agree (hF u b m (Nat.le_refl _)) x (fun j oj hj hoj hdd => ⟨(look x (by simp [Oper.looksAt, Op.operands]) j oj hoj hdd).1, by
            have hj' := (look x (by simp [Oper.looksAt, Op.operands]) j oj hoj hdd).2
            rcases Nat.lt_or_ge j m with hh | hh
            · exact hh
            · exfalso
              obtain rfl | rfl : j = m ∨ j = m + 1 := by omega
              · rw [s0] at hoj; cases hoj
                rw [hoc] at hdd
                exact hx.2.1 (Option.some.inj hdd).symm
              · rw [s1] at hoj; cases hoj
                exact hx.1 (Option.some.inj hdd).symm⟩)
          simp [Act.eval, this]
        unfold Oper.wp
        rw [int_store a'.eval _ _ _ W _ _ b _ y e1 e2 c1 c2]
        refine ⟨Below.setCell hW q1 _, u, b, ?_, fun h => own_setCell (hO (old _ h (by omega))) (hne (old _ h (by omega)) hD1) _, fun _ => ⟨q1, fun _ => q.set y, fun h => (h (.inr rfl)).elim⟩, fun h _ => hne (old _ h (by omega)) hD1⟩
        exact hfr.put (i := m + 2) s2 dist
      · rw [s3] at ho; cases ho
        rw [if_pos (show Region.wanted (⟨some s, .assign (.tmp c), ty3, ps3, af3, none⟩ : Oper) (yielded ops a'.tmps) = true from rfl)]
        have hD0 : D m := (look c (by simp [Oper.looksAt, Op.operands]) m _ s0 hoc).1
        have e1 : a'.eval (.tmp c) = u := by
          have := hfr.on m _ c hD0 s0 hoc hc
          simp only [Act.eval, Array.getD_eq_getD_getElem?, this, Option.getD_some]
          exact v0 u b
        unfold Oper.wp
        have hrun : (execOp a'.eval ⟨some s, .assign (.tmp c), ty3, ps3, af3, none⟩).run Try.prog W = .ok (.value u) W := by
          rw [← e1]
          generalize a'.eval = ev
          simp [execOp, go_sem]
        rw [hrun]
        refine ⟨hW, u, b, ?_, fun h => hO (old _ h (by omega)), fun h => ?_, fun h h' => hne (old _ h (by omega)) (old _ h' (by omega))⟩
        · have := hfr.put (i := m + 3) s3 dist
          rwa [v3] at this
        · obtain ⟨q1, q2, q3⟩ := hB (old _ h (by omega))
          exact ⟨q1, fun h => q2 (old _ h (by omega)), fun h => q3 fun hh => h (.inl hh)⟩
  · rintro D a' W ⟨hW, u, b, hfr, hO, hB, hne⟩ hall
    have dst1 : ∀ i o, i < m + 4 → ops[i]? = some o → ∀ j oj d, j < i → ops[j]? = some oj → o.dst = some d → oj.dst ≠ some d := fun i o hi ho j oj d hj hoj hd hd2 => by
      have := hok.dsts i o hi ho j oj (by omega) hoj d hd hd2
      omega
    have f1 := ((hF u b m (Nat.le_refl _)).put (i := m) s0 (fun j oj d hj hoj => dst1 m _ (by omega) s0 j oj d hj hoj)).same (E := fun j => j < m + 1) (fun j => by show (j < m ∨ j = m) ↔ j < m + 1; omega)
    have f2 := (f1.put (i := m + 1) s1 (fun j oj d hj hoj => dst1 (m + 1) _ (by omega) s1 j oj d hj hoj)).same (E := fun j => j < m + 2) (fun j => by show (j < m + 1 ∨ j = m + 1) ↔ j < m + 2; omega)
    have f3 := (f2.put (i := m + 2) s2 (fun j oj d hj hoj => dst1 (m + 2) _ (by omega) s2 j oj d hj hoj)).same (E := fun j => j < m + 3) (fun j => by show (j < m + 2 ∨ j = m + 2) ↔ j < m + 3; omega)
    have f4 := (f3.put (i := m + 3) s3 (fun j oj d hj hoj => dst1 (m + 3) _ (by omega) s3 j oj d hj hoj)).same (E := fun j => j < m + 4) (fun j => by show (j < m + 3 ∨ j = m + 3) ↔ j < m + 4; omega)
    have e := hfr.ext f4 (fun j hj => ⟨fun _ => by omega, fun _ => hall j hj⟩)
    rw [e, v0, v1, v3, hoc]
    exact hfin u b W hW (hO (hall m (by omega))) ((hB (hall (m + 1) (by omega))).2.1 (hall (m + 2) (by omega)))
end
end Go.Proofs.Ytomnaabadohecaa
namespace Go.Proofs.Ytomnaabadohecaa
open Go.RowKit
theorem own_oth {W : World} {base b k : Nat} {u : Value} {xs : List Int} (h : Own W base u xs) (hd : u.ownBlock ≠ some b) (v : Value) : Own (W.setCell ⟨b, k, none⟩ v) base u xs :=
  ownsRow_stable h fun j hj => Below.heap_setCell W _ v j (fun e => hd (by simp at hj; rw [hj, e]))
theorem getD_at {ls : List Int} {v : Nat} (h : v < ls.length) : ls[v]? = some (ls.getD v 0) := by rw [List.getD_eq_getElem?_getD, List.getElem?_eq_getElem h]; rfl
theorem pre_at {xs ys zs : List Int} {i : Nat} {x : Int} (h : zs = xs ++ ys) (hx : xs[i]? = some x) : zs[i]? = some x := by
  rw [h, List.getElem?_append_left (lt_of_get hx)]; exact hx
set_option maxRecDepth 100000 in
set_option maxHeartbeats 16000000 in
theorem meFrom_any (ve vi vn : Value) (n : Net) (v : Nat) (w : World) (h : NetIn w ve vi vn n) (hn : netOk n = true) (hv : v < n.ends.length) :
    Calls Try.prog 50 #[.agg #[ve, vi, vn], .int .i64 v] w fun e w' => ∃ u, e = .returned u ∧ Own w' w.heap.size u (distB n v) ∧ Below w.heap.size w w' := by
  have hnl := netOk_len hn
  have Hn := Lib.hid hn
  obtain ⟨w0, hw0⟩ : ∃ w0, w0 = (w).alloc (.cells #[ve, vi, vn] 31) := ⟨_, rfl⟩
  have hb0 : Below w.heap.size w w0 := by rw [hw0]; exact ((Below.refl _ _).alloc (by simp) _)
  have H := Lib.hid (h.keep hb0)
  obtain ⟨h1, h2, h3⟩ := h.keep hb0
  obtain ⟨A, c, rfl, hlc, hm, hA⟩ := h1
  obtain ⟨A2, c2, rfl, _, hm2, _⟩ := h2
  obtain ⟨A3, c3, rfl, _, hm3, _⟩ := h3
  unfold maxLen at hm hm2 hm3
  have p00 : ∀ W, Since w0 W → W.cell? ⟨w.heap.size, 0, none⟩ = some (.slice A n.ends.length c) := have_cell (by rw [hw0]; simp)
  have p01 : ∀ W, Since w0 W → W.cell? ⟨w.heap.size, 1, none⟩ = some (.slice A2 n.ids.length c2) := have_cell (by rw [hw0]; simp)
  have p02 : ∀ W, Since w0 W → W.cell? ⟨w.heap.size, 2, none⟩ = some (.slice A3 n.inputs.length c3) := have_cell (by rw [hw0]; simp)
  have Hb0 := Lib.hid hb0
  have Hw0 := Lib.hid hw0
  have HA := Lib.hid hA
  clear hA h
  clear hb0 hw0
  obtain ⟨cA, hcA⟩ : ∃ x, x = c := ⟨_, rfl⟩
  subst hcA
  obtain ⟨R, hR⟩ : ∃ R, R = distB n v := ⟨_, rfl⟩
  have HR := Lib.hid hR
  rw [← hR]
  have hs0 : Since w0 w0 := since_refl _
  clear hn hR
  go_enter Try.func50, Try.ntmps50
  go_upto_region 1 with (fail)
  rw [← Hw0.out]
  go_wp2_with (at_make; refine mk_ints _ rfl _ _ rfl _ _ n.ends.length rfl rfl rfl rfl (by omega) ?_; intro w1 ho1 hb1 hz1)
  obtain ⟨g, hg⟩ : ∃ g, g = w0.heap.size := ⟨_, rfl⟩
  rw [← hg] at ho1 hz1 ⊢
  have Hg := Lib.hid hg
  clear hg hz1
  go_wp2
  go_loopw [17] (fun i wr => ∃ k : Nat, k ≤ n.ends.length ∧ i = .int .i64 k ∧ Own wr w0.heap.size (.slice (some ⟨g, 0, none⟩) n.ends.length n.ends.length) (List.replicate k (-1) ++ List.replicate (n.ends.length - k) 0) ∧ Since w0 wr) (fun i _ => n.ends.length - (intOf i).toNat)
  case atStart => exact ⟨0, Nat.zero_le _, rfl, by have := ho1; simpa [Hg.out] using this, hb1⟩
  case round =>
    obtain ⟨k, hk, rfl, ho, hs⟩ := hrel
    have Ho := Lib.hid ho
    have Hs := Lib.hid hs
    clear ho1 hb1 ho hs hs0
    by_cases hlt : k < n.ends.length
    · obtain ⟨y, hy⟩ := getx (List.replicate k (-1 : Int) ++ List.replicate (n.ends.length - k) 0) k (by simp; omega)
      have cz := Ho.out.cell hy
      have fz := Ho.out.free k
      clear hy
      go_wp2
      go_roundw
      case rel =>
        refine ⟨k + 1, by omega, by go_num, ?_, Below.setCell Hs.out (by show w0.heap.size ≤ g; rw [Hg.out]; exact Nat.le_refl _) _⟩
        have := Ho.out.set (k := k) (-1)
        have e : (List.replicate k (-1 : Int) ++ List.replicate (n.ends.length - k) 0).set k (-1) = List.replicate (k + 1) (-1) ++ List.replicate (n.ends.length - (k + 1)) 0 := by
          rw [List.set_append_right _ _ (by simp), List.length_replicate, Nat.sub_self, show n.ends.length - k = (n.ends.length - (k + 1)) + 1 by omega, List.replicate_succ, List.set_cons_zero, List.replicate_succ', List.append_assoc]
          rfl
        rwa [e] at this
      case measure => simp [intOf]; omega
    · obtain rfl : k = n.ends.length := by omega
      have Ho2 : Hid (Own wr w0.heap.size (.slice (some ⟨g, 0, none⟩) n.ends.length n.ends.length) (List.replicate n.ends.length (-1))) := by
        have := Ho.out
        rwa [Nat.sub_self, List.replicate_zero, List.append_nil] at this
      have cz := Ho2.out.cell (getD_at (show v < (List.replicate n.ends.length (-1 : Int)).length by simpa using hv))
      have fz := Ho2.out.free v
      have Hgw : Hid (w0.heap.size ≤ g) := by rw [Hg.out]; exact Nat.le_refl _
      obtain ⟨w3, hw3⟩ : ∃ w3, w3 = wr.setCell ⟨g, v, none⟩ (.int .i64 0) := ⟨_, rfl⟩
      have Ho3 : Hid (Own w3 w0.heap.size (.slice (some ⟨g, 0, none⟩) n.ends.length n.ends.length) (bfsStart n v).1) := by rw [hw3]; exact Ho2.out.set (k := v) 0
      have Hs3 : Hid (Since w0 w3) := by rw [hw3]; exact Below.setCell Hs.out Hgw.out _
      obtain ⟨g2, hg2⟩ : ∃ g2, g2 = wr.heap.size := ⟨_, rfl⟩
      have e3 : w3.heap.size = wr.heap.size := by rw [hw3]; simp
      obtain ⟨w4, hw4⟩ : ∃ w4, w4 = w3.alloc (.cells #[.int .i64 v] 3) := ⟨_, rfl⟩
      have Ho4 : Hid (Own w4 w0.heap.size (.slice (some ⟨g, 0, none⟩) n.ends.length n.ends.length) (bfsStart n v).1) := by rw [hw4]; exact Ho3.out.since (since_alloc _ (since_refl _))
      have Hu4 : Hid (Own w4 w0.heap.size (.slice (some ⟨g2, 0, none⟩) (bfsStart n v).2.length 1) (bfsStart n v).2) := by
        rw [hw4, hg2, ← e3]
        have := own_lit w3 [(v : Int)] (by simp [maxLen])
        exact this.mono Hs3.out.below.size
      have Hs4 : Hid (Since w0 w4) := by rw [hw4]; exact since_alloc _ Hs3.out
      have hgg : g2 ≠ g := by have := (World.ownsRow.lt Ho3.out g rfl).2; omega
      clear e3
      have Hw3 := Lib.hid hw3
      have Hw4 := Lib.hid hw4
      have Hg2 := Lib.hid hg2
      clear hw3 hw4 hg2
      go_upto_region 9 with (fail)
      rw [← Hw3.out, ← Hg2.out, ← Hw4.out]
      clear cz fz
      go_wp2
      go_loopw [7, 8] (fun u i wr => ∃ (f k : Nat) (st : List Int × List Int) (gu cu : Nat), i = .int .i64 k ∧ u = .slice (some ⟨gu, 0, none⟩) st.2.length cu ∧ gu ≠ g ∧ BI n.ends.length st ∧ bfs n f st k = R ∧ n.ends.length + 1 ≤ f + k ∧ k ≤ st.2.length ∧ Own wr w0.heap.size (.slice (some ⟨g, 0, none⟩) n.ends.length n.ends.length) st.1 ∧ Own wr w0.heap.size u st.2 ∧ Since w0 wr) (fun _ i _ => n.ends.length + 1 - (intOf i).toNat)
      case atStart => exact ⟨n.ends.length + 1, 0, bfsStart n v, g2, 1, rfl, rfl, hgg, BI.start hv, HR.out.symm, by omega, Nat.zero_le _, Ho4.out, Hu4.out, Hs4.out⟩
      case round =>
        obtain ⟨f, k, st, gu, cu, rfl, rfl, hgu, hbi, hbr, hf, hk, ho, hou, hs⟩ := hrel
        have HBI := Lib.hid hbi
        have Hbr := Lib.hid hbr
        have Ho := Lib.hid ho
        have Hou := Lib.hid hou
        have Hs := Lib.hid hs
        have hbd := hbi.bd
        clear hbi hbr ho hou hs hgg
        by_cases hlt : k < st.2.length
        · obtain ⟨f, rfl⟩ : ∃ f', f = f' + 1 := ⟨f - 1, by omega⟩
          obtain ⟨x, hx⟩ := getx st.2 k hlt
          have hxin := HBI.out.walk x (List.mem_of_getElem? hx)
          obtain ⟨c, rfl⟩ := Int.eq_ofNat_of_zero_le hxin.1
          have hc : c < n.ends.length := by omega
          have cx := have_cell (Hou.out.cell hx)
          have Hxin := Lib.hid hxin
          have Hxd : Hid (st.2.getD k 0 = (c : Int)) := by show _ = _; rw [List.getD_eq_getElem?_getD, hx]; rfl
          have Hx := Lib.hid hx
          obtain ⟨es, hes⟩ := getx n.ends c hc
          obtain ⟨hes6, -⟩ := netOk_row Hn.out hes
          have Hes := Lib.hid hes
          obtain ⟨see, hsee⟩ : ∃ s, s = bsee n c := ⟨_, rfl⟩
          have Hse2 : Hid (es.map (·.1) = see) := by show _ = _; rw [hsee, bsee, Int.toNat_natCast, List.getD_eq_getElem?_getD, hes]; rfl
          have Hsin : Hid (∀ y ∈ see, 0 ≤ y ∧ y < n.ends.length) := by rw [hsee]; exact see_in Hn.out Hxin.out
          have Hsee := Lib.hid hsee
          have hs6 : see.length ≤ 6 := by rw [← Hse2.out, List.length_map]; exact hes6
          have Hcall : Hid (∀ W, Since wr W → Calls Try.prog 51 #[.agg #[.slice A n.ends.length cA, .slice A2 n.ids.length c2, .slice A3 n.inputs.length c3], .int .i64 c] W fun e w' => ∃ u, e = .returned u ∧ Own w' wr.heap.size u see ∧ Below W.heap.size W w') := fun W hW => by
            have := neNear_any _ _ _ n c es W (H.out.keep (Hs.out.after hW).below) Hes.out (by omega)
            rw [Hse2.out] at this
            exact this.mono fun e w' ⟨u, h1, h2, h3⟩ => ⟨u, h1, h2.mono (Since.below hW).size, h3⟩
          have q0 := lift_cell p00 Hs.out
          have q1 := lift_cell p01 Hs.out
          have q2 := lift_cell p02 Hs.out
          clear hx hxin hes hsee
          go_upto_region 12 with (fail)
          refine wp_region_chain (w0 := wr) 8 [false, false, false, false, false, true, true, false] (by kernel_rfl) (by kernel_rfl) (since_refl _) ?_
          simp only [selF, selT, List.take_succ_cons, List.take_zero, List.drop_succ_cons, List.drop_zero]
          refine pflow_val (v := ?_) rfl ?_ ?_; rotate_left; (intro W hW; go_simp; with_reducible rfl)
          simp only [Act.put, List.setIfInBounds_toArray, List.set_cons_succ, List.set_cons_zero]
          refine pflow_val (v := ?_) rfl ?_ ?_; rotate_left; (intro W hW; go_simp; with_reducible rfl)
          simp only [Act.put, List.setIfInBounds_toArray, List.set_cons_succ, List.set_cons_zero]
          refine pflow_val (v := ?_) rfl ?_ ?_; rotate_left; (intro W hW; go_simp; with_reducible rfl)
          simp only [Act.put, List.setIfInBounds_toArray, List.set_cons_succ, List.set_cons_zero]
          refine pflow_val (v := ?_) rfl ?_ ?_; rotate_left; (intro W hW; go_simp; with_reducible rfl)
          simp only [Act.put, List.setIfInBounds_toArray, List.set_cons_succ, List.set_cons_zero]
          refine pflow_val (v := ?_) rfl ?_ ?_; rotate_left; (intro W hW; go_simp; with_reducible rfl)
          simp only [Act.put, List.setIfInBounds_toArray, List.set_cons_succ, List.set_cons_zero]
          refine pflow_val (v := ?_) rfl ?_ ?_; rotate_left; (intro W hW; go_simp; with_reducible rfl)
          simp only [Act.put, List.setIfInBounds_toArray, List.set_cons_succ, List.set_cons_zero]
          intro W hW
          refine Or.inl ⟨rfl, ?_⟩
          go_simp
          (with_reducible refine (Hcall.out W hW).mono ?_)
          rintro e W' ⟨un, rfl, hon, hb⟩
          refine ⟨_, rfl, hW.trans hb, ?_⟩
          replace hW := hW.trans hb
          obtain ⟨Bn, dn, rfl, _⟩ := id hon.ints
          (try simp only [Act.put, List.setIfInBounds_toArray, List.set_cons_succ, List.set_cons_zero])
          refine tflow_val (v := ?_) rfl ?_ hW ?_; rotate_left; (go_simp; with_reducible rfl)
          simp only [Act.put, List.setIfInBounds_toArray, List.set_cons_succ, List.set_cons_zero]
          simp only [TFlow]
          have Hon := Lib.hid (hon.mono Hs.out.below.size)
          have hnr := fun q hq => (World.ownsRow.lt hon q hq).1
          have hng : (Value.slice Bn see.length dn).ownBlock ≠ some g := fun e => by have := hnr g e; have := (World.ownsRow.lt Ho.out g rfl).2; omega
          have hnu : (Value.slice Bn see.length dn).ownBlock ≠ some gu := fun e => by have := hnr gu e; have := (World.ownsRow.lt Hou.out gu rfl).2; omega
          have Ho5 := Lib.hid (Ho.out.since hW)
          have Hou5 := Lib.hid (Hou.out.since hW)
          have Hs5 := Lib.hid (Hs.out.after hW)
          have Hng := Lib.hid hng
          have Hnu := Lib.hid hnu
          have Hfw : Hid (∀ j, ∃ ys, ((see.take j).foldl (bstep c) st).2 = st.2 ++ ys) := fun j => fold_walk _ _ _
          clear hon hnr hng hnu hW cx q0 q1 q2
          go_wp2
          go_loopw [7, 42] (fun u i wr => ∃ (j gu cu : Nat) (st' : List Int × List Int), j ≤ see.length ∧ i = .int .i64 j ∧ st' = (see.take j).foldl (bstep c) st ∧ u = .slice (some ⟨gu, 0, none⟩) st'.2.length cu ∧ gu ≠ g ∧ BI n.ends.length st' ∧ Own wr w0.heap.size (.slice (some ⟨g, 0, none⟩) n.ends.length n.ends.length) st'.1 ∧ Own wr w0.heap.size u st'.2 ∧
            Own wr w0.heap.size (.slice Bn see.length dn) see ∧ (Value.slice Bn see.length dn).ownBlock ≠ some gu ∧ Since w0 wr) (fun _ i _ => see.length - (intOf i).toNat)
          case atStart => exact ⟨0, gu, cu, st, Nat.zero_le _, rfl, rfl, rfl, hgu, HBI.out, Ho5.out, Hou5.out, Hon.out, Hnu.out, Hs5.out⟩
          case round =>
            obtain ⟨j, gv, cv, st', hj, rfl, hst', rfl, hgv, hbi', ho', hou', hon', hnv, hs'⟩ := hrel
            have HBI' := Lib.hid hbi'
            have Ho' := Lib.hid ho'
            have Hou' := Lib.hid hou'
            have Hon' := Lib.hid hon'
            have Hs' := Lib.hid hs'
            have Hst' := Lib.hid hst'
            have Hnv := Lib.hid hnv
            have hbd' := hbi'.bd
            clear hst' hbi' ho' hou' hon' hs' hnv hgu
            by_cases hlj : j < see.length
            · obtain ⟨y, hy⟩ := getx see j hlj
              have hyin := Hsin.out y (List.mem_of_getElem? hy)
              obtain ⟨d, rfl⟩ := Int.eq_ofNat_of_zero_le hyin.1
              have hd : d < n.ends.length := by omega
              rcases Hon'.out.cases with ⟨-, e1⟩ | ⟨gn, cn, en, hgn1, hgn2⟩
              · rw [e1] at hlj; simp at hlj
              injection en with en1 en2 en3
              subst en1
              have cy := Hon'.out.cell hy
              have hl1 : st'.1.length = n.ends.length := HBI'.out.len
              have cd := Ho'.out.cell (getD_at (show d < st'.1.length by omega))
              have fd := Ho'.out.free d
              obtain ⟨z, hz⟩ : ∃ z, z = st'.1.getD d 0 := ⟨_, rfl⟩
              rw [← hz] at cd
              have Hz := Lib.hid hz
              have Hy := Lib.hid hy
              have Hnx : Hid ((see.take (j + 1)).foldl (bstep c) st = bstep c st' d) := by show _ = _; rw [fold_snoc hy, ← Hst'.out]
              have Hl1 := Lib.hid hl1
              have m3 : IntKind.i64.wrap ((j : Int) + 1) = (j : Int) + 1 := wr64 _ (by omega) (by omega)
              clear hz hy hyin hl1 en2 en3
              by_cases hneg : z < 0
              · have hcl : c < st'.1.length := by rw [Hl1.out]; exact hc
                obtain ⟨q, hq⟩ : ∃ q, q = st'.1.getD c 0 := ⟨_, rfl⟩
                have cq := Ho'.out.cell (getD_at hcl)
                rw [← hq] at cq
                have hqb : -1 ≤ q ∧ q < st'.2.length := by rw [hq]; exact HBI'.out.val _ (List.mem_of_getElem? (getD_at hcl))
                obtain ⟨ys, hys⟩ := Hfw.out j
                have cw := Hou'.out.cell (pre_at (show st'.2 = st.2 ++ ys by rw [Hst'.out]; exact hys) Hx.out)
                have hkl : k < st'.2.length := lt_of_get (pre_at (show st'.2 = st.2 ++ ys by rw [Hst'.out]; exact hys) Hx.out)
                have m4 : IntKind.i64.wrap (q + 1) = q + 1 := wr64 _ (by omega) (by omega)
                have Hnew : Hid (bstep c st' d = (st'.1.set d (q + 1), st'.2 ++ [(d : Int)])) := by show _ = _; unfold bstep; rw [Int.toNat_natCast, Int.toNat_natCast, ← Hz.out, if_pos hneg, ← hq]
                have HBn : Hid (BI n.ends.length (bstep c st' d)) := HBI'.out.step (by omega) (by omega)
                obtain ⟨w5, hw5⟩ : ∃ w5, w5 = wr.setCell ⟨g, d, none⟩ (.int .i64 (q + 1)) := ⟨_, rfl⟩
                have Ho5' : Hid (Own w5 w0.heap.size (.slice (some ⟨g, 0, none⟩) n.ends.length n.ends.length) (st'.1.set d (q + 1))) := by rw [hw5]; exact Ho'.out.set (k := d) (q + 1)
                have Hou5' : Hid (Own w5 w0.heap.size (.slice (some ⟨gv, 0, none⟩) st'.2.length cv) st'.2) := by rw [hw5]; exact own_oth Hou'.out (by simpa [Value.ownBlock] using hgv) _
                have Hon5' : Hid (Own w5 w0.heap.size (.slice (some ⟨gn, 0, none⟩) see.length dn) see) := by rw [hw5]; exact own_oth Hon'.out Hng.out _
                have Hs5' : Hid (Since w0 w5) := by rw [hw5]; exact Below.setCell Hs'.out Hgw.out _
                have Hw5 := Lib.hid hw5
                have Hgv := Lib.hid hgv
                have Hlen : Hid (st'.2.length + 1 ≤ 17592186044416) := by show _ ≤ _; omega
                clear hq hw5 hys
                go_upto_region 17 with (fail)
                rw [← Hw5.out]
                clear cy cd fd cq cw m4
                go_wp2_with (at_builtin; refine app_int rfl _ _ rfl rfl (Hou5'.out.since (since_alloc _ (since_refl _))) w5.heap.size d rfl (by simp [go_sem]) Hlen.out (by have := Hs5'.out.below.size; simp; omega) ?_; intro g7 c7 w7 ho7 hg7 hor7 _)
                change World.grownBy _ w7 (some gv) at hg7
                change (some gv = some g7 ∨ g7 = _) at hor7
                have Ho7 : Hid (Own w7 w0.heap.size (.slice (some ⟨g, 0, none⟩) n.ends.length n.ends.length) (st'.1.set d (q + 1))) := Own.grown (Ho5'.out.keep (below_alloc w5 _)) hg7 (fun x hx e => by simp [Value.ownBlock] at hx; cases e; exact Hgv.out hx.symm)
                have Hon7 : Hid (Own w7 w0.heap.size (.slice (some ⟨gn, 0, none⟩) see.length dn) see) := Own.grown (Hon5'.out.keep (below_alloc w5 _)) hg7 (fun x hx e => by cases e; exact Hnv.out hx)
                have Hou7 : Hid (Own w7 w0.heap.size (.slice (some ⟨g7, 0, none⟩) (st'.2.length + 1) c7) (st'.2 ++ [(d : Int)])) := ho7
                have Hgz := Lib.hid (World.ownsRow.lt Ho5'.out g rfl).2
                have Hgnz := Lib.hid (World.ownsRow.lt Hon5'.out gn rfl).2
                have Hg7 : Hid (g7 ≠ g) := by
                  rcases hor7 with e | e
                  · cases e; exact Hgv.out
                  · simp at e; exact fun e2 => by have := Hgz.out; omega
                have Hgn7 : Hid ((Value.slice (some ⟨gn, 0, none⟩) see.length dn).ownBlock ≠ some g7) := by
                  rcases hor7 with e | e
                  · cases e; exact Hnv.out
                  · simp at e; exact fun e2 => by simp [Value.ownBlock] at e2; have := Hgnz.out; omega
                have Hs7 : Hid (Since w0 w7) := Below.grown (show Below w0.heap.size w0 _ from since_alloc _ Hs5'.out) hg7 (by have := Hs5'.out.below.size; simp; omega) (fun x hx => by cases hx; exact (World.ownsRow.lt Hou5'.out gv rfl).1)
                clear ho7 hg7 hor7
                go_wp2
                go_roundw
                case rel => exact ⟨j + 1, g7, c7, bstep c st' d, by omega, by go_num, Hnx.out.symm, by rw [Hnew.out]; simp, Hg7.out, HBn.out, by rw [Hnew.out]; exact Ho7.out, by rw [Hnew.out]; exact Hou7.out, Hon7.out, Hgn7.out, Hs7.out⟩
                case measure => simp [intOf]; omega
              · have Hsame : Hid (bstep c st' d = st') := by show _ = _; unfold bstep; rw [Int.toNat_natCast, ← Hz.out, if_neg hneg]
                go_wp2
                go_roundw
                case rel => exact ⟨j + 1, gv, cv, st', by omega, by go_num, by rw [Hnx.out, Hsame.out], rfl, hgv, HBI'.out, Ho'.out, Hou'.out, Hon'.out, Hnv.out, Hs'.out⟩
                case measure => simp [intOf]; omega
            · obtain rfl : j = see.length := by omega
              have Hfin : Hid (st' = see.foldl (bstep c) st) := by show _ = _; rw [Hst'.out, List.take_length]
              have Hbn : Hid (bfs n f st' (k + 1) = R) := by
                show _ = _
                rw [← Hbr.out, bfs, if_pos hlt, Hxd.out, ← Hsee.out, ← Hfin.out]
              have Hlw : Hid (k + 1 ≤ st'.2.length) := by
                obtain ⟨ys, hys⟩ := Hfw.out see.length
                show _ ≤ _
                rw [Hst'.out, hys, List.length_append]
                omega
              have m3 : IntKind.i64.wrap ((k : Int) + 1) = (k : Int) + 1 := wr64 _ (by omega) (by omega)
              go_wp2
              go_roundw
              case rel => exact ⟨f, k + 1, st', gv, cv, by go_num, rfl, hgv, HBI'.out, Hbn.out, by omega, Hlw.out, Ho'.out, Hou'.out, Hs'.out⟩
              case measure => simp [intOf]; omega
        · have hRe : Hid (R = st.1) := by
            rw [← Hbr.out]
            obtain ⟨f, rfl⟩ | h0 : (∃ f', f = f' + 1) ∨ f = 0 := by
              rcases Nat.eq_zero_or_pos f with h | h
              · exact .inr h
              · exact .inl ⟨f - 1, by omega⟩
            · show bfs _ _ _ _ = _
              rw [bfs, if_neg hlt]
            · subst h0; exact rfl
          go_wp2
          go_ret
          exact ⟨_, rfl, by rw [hRe.out]; exact Ho.out.mono Hb0.out.size, Since.after Hb0.out Hs.out⟩
end Go.Proofs.Ytomnaabadohecaa
