import Derived.Test.YthgbobikbdklhaaNear
import Derived.Test.YthgbobikbdklhaaFlow
namespace Go.Proofs.Ythgbobikbdklhaa
open Go Go.RowKit
/-! A region that draws its order: reads, a call that makes a row of integers, a new variable of type int, a slot for the row. -/
def I1 (W : World) (b : Nat) (x : Int) : Prop := W.heap[b]? = some (.cells #[.int .i64 x] 3)
theorem I1.cells {W : World} {b : Nat} {x : Int} (h : I1 W b x) : W.cell? ⟨b, 0, none⟩ = some (.int .i64 x) ∧ W.frozen? ⟨b, 0, none⟩ = false := by
  unfold I1 at h
  simp [World.cell?, World.frozen?, h]
theorem I1.lt {W : World} {b : Nat} {x : Int} (h : I1 W b x) : b < W.heap.size := (Array.getElem?_eq_some_iff.1 h).1
theorem I1.since {W W' : World} {b : Nat} {x : Int} (h : I1 W b x) (hs : Since W W') : I1 W' b x := (hs.below.block b h.lt).trans h
theorem I1.set {W : World} {b : Nat} {x : Int} (h : I1 W b x) (y : Int) : I1 (W.setCell ⟨b, 0, none⟩ (.int .i64 y)) b y := by
  unfold I1 at *
  simp [World.setCell, Array.getElem?_modify, h]
theorem I1.new (W : World) (x : Int) : I1 (W.alloc (.cells #[.int .i64 x] 3)) W.heap.size x := by
  show (W.heap.push _)[W.heap.size]? = _
  rw [Array.getElem?_push_size]
theorem int_zero (ev : Operand → Value) (d : Option Tmp) (ty : TypeId) (pos : String) (af : Array Edge) (W : World) : (execOp ev ⟨d, .alloc 3, ty, pos, af, none⟩).run Try.prog W = .ok (.value (ptr W.heap.size)) (W.alloc (.cells #[.int .i64 0] 3)) := by
  unfold ptr
  go_simp
theorem int_store (ev : Operand → Value) (ty : TypeId) (pos : String) (af : Array Edge) (W : World) (p x : Operand) (b : Nat) (q1 : Value) (y1 : Int) (h1 : ev p = ptr b) (h2 : ev x = .int .i64 y1) (h3 : W.cell? ⟨b, 0, none⟩ = some q1) (h5 : W.frozen? ⟨b, 0, none⟩ = false) :
    (execOp ev ⟨none, .store 3 p x, ty, pos, af, none⟩).run Try.prog W = .ok .skip (W.setCell ⟨b, 0, none⟩ (.int .i64 y1)) := by
  unfold ptr at h1
  go_simp
theorem own_setCell {W : World} {base b : Nat} {u : Value} {xs : List Int} (h : Own W base u xs) (hd : u.ownBlock ≠ some b) (v : Value) : Own (W.setCell ⟨b, 0, none⟩ v) base u xs :=
  ownsRow_stable h fun k hk => Below.heap_setCell W _ v k (fun e => hd (by simp at hk; rw [hk, e]))
section
variable {ops : Array Oper}
theorem wp_region_near {Q : Exit → Act → World → Prop} {rid : Nat} {a : Act} {w w0 : World} (m d x c s : Nat) (y : Int) (xs : List Int) (hm : Try.prog.follows .mixedOrders = true) (hf : flowB ops (m + 4) = true) (hsz : ops.size = m + 4) (hs0 : Since w0 w) {oc : Oper} (s0 : ops[m]? = some oc) (hoc : oc.dst = some c)
    (s1 : ∃ ty pos af, ops[m + 1]? = some ⟨some d, .alloc 3, ty, pos, af, none⟩) (s2 : ∃ ty pos af, ops[m + 2]? = some ⟨none, .store 3 (.tmp d) (.tmp x), ty, pos, af, none⟩) (s3 : ∃ ty pos af, ops[m + 3]? = some ⟨some s, .assign (.tmp c), ty, pos, af, none⟩)
    (hx : x ≠ d ∧ x ≠ c ∧ x ≠ s) (hd : d < a.tmps.size) (hc : c < a.tmps.size)
    (h : PFlow Try.prog ops w0 (fun A => A.eval (.tmp x) = .int .i64 y ∧ (Region.wanted oc (yielded ops A.tmps) = true ∧ ∀ W, Since w0 W → GivesAny Try.prog (fun W' u => Own W' W.heap.size u xs) oc A W) ∧
      ∀ u b W, Since w0 W → Own W w0.heap.size u xs → I1 W b y → Q .normal (((A.put (some c) u).put (some d) (ptr b)).put (some s) u) W) (ops.toList.take m) a) : (Code.region rid ops true).wp Try.prog Q a w := by
  have hok := flow_ok hf
  obtain ⟨vals, F, h0, ⟨hx1, ⟨hw1, hg1⟩, hfin⟩, hst'⟩ := pflow_frames _ a h
  have hlen : (ops.toList.take m).length = m := by simp; omega
  rw [hlen] at hx1 hw1 hg1 hfin
  have hget : ∀ i o, i < m → ops[i]? = some o → (ops.toList.take m)[i]? = some o := fun i o hi ho => by
    rw [List.getElem?_take, if_pos hi]; simpa using ho
  obtain ⟨ty1, ps1, af1, s1⟩ := s1
  obtain ⟨ty2, ps2, af2, s2⟩ := s2
  obtain ⟨ty3, ps3, af3, s3⟩ := s3
  have hF0 : ∀ i, i ≤ m → FrameIs a ops vals (fun j => j < i) (F i) := by
    intro i
    induction i with
    | zero => intro _; rw [h0]; exact ⟨rfl, rfl, fun j _ _ hj => absurd hj (by omega), fun _ _ => rfl⟩
    | succ i ih =>
      intro hi
      have hi' : i < ops.size := by omega
      have ho : ops[i]? = some ops[i] := Array.getElem?_eq_getElem hi'
      rw [(hst' i _ (hget i _ (by omega) ho)).2]
      exact ((ih (by omega)).put ho (fun j oj d hj hoj hd hd2 => by
        have := hok.dsts i _ (by omega) ho j oj (by omega) hoj d hd hd2
        omega)).same (fun j => by show (j < i ∨ j = i) ↔ j < i + 1; omega)
  let V : Value → Nat → Nat → Value := fun u b j => if j = m then u else if j = m + 1 then ptr b else if j = m + 3 then u else vals j
  have v0 : ∀ u b, V u b m = u := fun u b => if_pos rfl
  have v1 : ∀ u b, V u b (m + 1) = ptr b := fun u b => by show (if m + 1 = m then _ else if m + 1 = m + 1 then _ else _) = _; rw [if_neg (by omega), if_pos rfl]
  have v3 : ∀ u b, V u b (m + 3) = u := fun u b => by show (if m + 3 = m then _ else if m + 3 = m + 1 then _ else if m + 3 = m + 3 then _ else _) = _; rw [if_neg (by omega), if_neg (by omega), if_pos rfl]
  have vv : ∀ u b j, j < m → V u b j = vals j := fun u b j hj => by show (if j = m then _ else if j = m + 1 then _ else if j = m + 3 then _ else vals j) = _; rw [if_neg (by omega), if_neg (by omega), if_neg (by omega)]
  have hF : ∀ u b i, i ≤ m → FrameIs a ops (V u b) (fun j => j < i) (F i) := fun u b i hi => (hF0 i hi).vals (fun j hj => (vv u b j (by omega)).symm)
  refine wp_region_inv hm hok.back (fun D a' W => Since w0 W ∧ ∃ u b, FrameIs a ops (V u b) D a' ∧ (D m → Own W w0.heap.size u xs) ∧ (D (m + 1) → w0.heap.size ≤ b ∧ (D (m + 2) → I1 W b y) ∧ (¬ D (m + 2) → I1 W b 0)) ∧ (D m → D (m + 1) → u.ownBlock ≠ some b)) ?_ ?_ ?_
  · exact ⟨since_drew hs0, undef, 0, ⟨rfl, rfl, fun j _ _ hj => hj.elim, fun _ _ => rfl⟩, fun h => h.elim, fun h => h.elim, fun h => h.elim⟩
  · rintro D a' W i o ⟨hW, u, b, hfr, hO, hB, hne⟩ ho hDi hdep hcl
    have hin : i < m + 4 := by have := (Array.getElem?_eq_some_iff.1 ho).1; omega
    have look : ∀ t ∈ o.looksAt ops, ∀ j oj, ops[j]? = some oj → oj.dst = some t → D j ∧ j < i := fun t ht j oj hoj hd => by
      have hjn : j < m + 4 := by have := (Array.getElem?_eq_some_iff.1 hoj).1; omega
      have := hok.looks i o hin ho t ht j oj hjn hoj hd
      exact ⟨hdep j this, hok.back i o ho j this⟩
    have dist : ∀ j oj d, D j → ops[j]? = some oj → o.dst = some d → oj.dst ≠ some d := fun j oj d hj hoj hd hd2 => by
      have hjn : j < m + 4 := by have := (Array.getElem?_eq_some_iff.1 hoj).1; omega
      have := hok.dsts i o hin ho j oj hjn hoj d hd hd2
      subst this
      exact hDi hj
    have old : ∀ j, (D j ∨ j = i) → j ≠ i → D j := fun j h hj => h.elim (fun h => h) fun e => absurd e hj
    rcases Nat.lt_or_ge i m with him | him
    · obtain ⟨⟨hw, hrun⟩, -⟩ := hst' i o (hget i o him ho)
      obtain ⟨he, hw'⟩ := agree_exec (ops := ops) (a' := a') (A := F i) (fun t ht => hfr.agree (hF u b i (by omega)) t (fun j oj hj hoj hd => look t ht j oj hoj hd)) (fun cs b => hok.nosel i o cs b ho)
      rw [if_pos (hw'.trans hw)]
      unfold Oper.wp
      rw [he, hrun W hW]
      refine ⟨hW, u, b, ?_, fun h => hO (old _ h (by omega)), fun h => ?_, fun h h' => hne (old _ h (by omega)) (old _ h' (by omega))⟩
      · have := hfr.put (i := i) ho dist
        rwa [vv u b i him] at this
      · obtain ⟨q1, q2, q3⟩ := hB (old _ h (by omega))
        exact ⟨q1, fun h => q2 (old _ h (by omega)), fun h => q3 fun hh => h (.inl hh)⟩
    · obtain rfl | rfl | rfl | rfl : i = m ∨ i = m + 1 ∨ i = m + 2 ∨ i = m + 3 := by omega
      · rw [s0] at ho; cases ho
        obtain ⟨he, hw'⟩ := agree_exec (ops := ops) (a' := a') (A := F i) (fun t ht => hfr.agree (hF u b i (Nat.le_refl _)) t (fun j oj hj hoj hd => look t ht j oj hoj hd)) (fun cs b => hok.nosel i _ cs b s0)
        rw [if_pos (hw'.trans hw1)]
        unfold Oper.wp
        rw [he]
        have hgv := hg1 W hW
        unfold GivesAny at hgv
        have n3 : ¬ D (i + 3) := fun h => hDi (hcl _ _ h s3 _ (hok.looks (i + 3) _ (by omega) s3 c (by simp [Oper.looksAt, Op.operands]) i _ (by omega) s0 hoc))
        have next : ∀ u' W', Own W' W.heap.size u' xs → Since W W' → Since w0 W' ∧ ∃ u b, FrameIs a ops (V u b) (fun j => D j ∨ j = i) (a'.put oc.dst u') ∧ ((D i ∨ i = i) → Own W' w0.heap.size u xs) ∧ ((D (i + 1) ∨ i + 1 = i) → w0.heap.size ≤ b ∧ ((D (i + 2) ∨ i + 2 = i) → I1 W' b y) ∧ (¬ (D (i + 2) ∨ i + 2 = i) → I1 W' b 0)) ∧ ((D i ∨ i = i) → (D (i + 1) ∨ i + 1 = i) → u.ownBlock ≠ some b) := fun u' W' hr hs => by
          refine ⟨hW.after hs, u', b, ?_, fun _ => hr.mono hW.below.size, fun h => ?_, fun _ h => ?_⟩
          · have := (hfr.vals2 (v' := V u' b) (fun j hjn hj => by
              rcases Nat.lt_or_ge j i with h | h
              · rw [vv _ _ _ h, vv _ _ _ h]
              · obtain rfl | rfl | rfl | rfl : j = i ∨ j = i + 1 ∨ j = i + 2 ∨ j = i + 3 := by omega
                · exact absurd hj hDi
                · rw [v1, v1]
                · show (if i + 2 = i then _ else if i + 2 = i + 1 then _ else if i + 2 = i + 3 then _ else vals (i + 2)) = (if i + 2 = i then _ else if i + 2 = i + 1 then _ else if i + 2 = i + 3 then _ else vals (i + 2))
                  rw [if_neg (by omega), if_neg (by omega), if_neg (by omega), if_neg (by omega), if_neg (by omega), if_neg (by omega)]
                · exact absurd hj n3)).put (i := i) s0 dist
            rwa [v0] at this
          · obtain ⟨q1, q2, q3⟩ := hB (old _ h (by omega))
            exact ⟨q1, fun h => (q2 (old _ h (by omega))).since hs, fun h => (q3 fun hh => h (.inl hh)).since hs⟩
          · obtain ⟨q1, q2, q3⟩ := hB (old _ h (by omega))
            have hbl : b < W.heap.size := by
              by_cases h2 : D (i + 2)
              · exact (q2 h2).lt
              · exact (q3 h2).lt
            intro e
            have := (World.ownsRow.lt hr b e).1
            omega
        generalize (execOp (F i).eval oc).run Try.prog W = r at hgv ⊢
        cases r with
        | ok nx W' =>
          cases nx with
          | value u' => exact next u' W' hgv.1 hgv.2
          | enter f args =>
            simp only at hgv
            rw [Oper.upon_enter]
            exact hgv.mono fun e W'' ⟨u', he', hr, hs⟩ => by subst he'; exact next u' W'' hr hs
          | _ => exact hgv.elim
        | halt x W' => exact hgv.elim
      · rw [s1] at ho; cases ho
        rw [if_pos (show Region.wanted (⟨some d, .alloc 3, ty1, ps1, af1, none⟩ : Oper) (yielded ops a'.tmps) = true from rfl)]
        unfold Oper.wp
        rw [int_zero]
        have n2 : ¬ D (m + 2) := fun h => hDi (hcl _ _ h s2 _ (hok.looks (m + 2) _ (by omega) s2 d (by simp [Oper.looksAt, Op.operands]) (m + 1) _ (by omega) s1 rfl))
        refine ⟨since_alloc _ hW, u, W.heap.size, ?_, fun h => (hO (old _ h (by omega))).since (since_alloc _ (since_refl _)), fun _ => ⟨hW.below.size, fun h => (n2 (old _ h (by omega))).elim, fun _ => I1.new W 0⟩, fun h _ e => ?_⟩
        · have := (hfr.vals2 (v' := V u W.heap.size) (fun j hjn hj => by
            rcases Nat.lt_or_ge j m with h | h
            · rw [vv _ _ _ h, vv _ _ _ h]
            · obtain rfl | rfl | rfl | rfl : j = m ∨ j = m + 1 ∨ j = m + 2 ∨ j = m + 3 := by omega
              · rw [v0, v0]
              · exact absurd hj hDi
              · exact absurd hj n2
              · rw [v3, v3])).put (i := m + 1) s1 dist
          rwa [v1] at this
        · have := (World.ownsRow.lt (hO (old _ h (by omega))) _ e).2
          omega
      · rw [s2] at ho; cases ho
        rw [if_pos (show Region.wanted (⟨none, .store 3 (.tmp d) (.tmp x), ty2, ps2, af2, none⟩ : Oper) (yielded ops a'.tmps) = true from rfl)]
        have hD1 : D (m + 1) := (look d (by simp [Oper.looksAt, Op.operands]) (m + 1) _ s1 rfl).1
        obtain ⟨q1, q2, q3⟩ := hB hD1
        have q := q3 hDi
        obtain ⟨c1, c2⟩ := q.cells
        have e1 : a'.eval (.tmp d) = ptr b := by
          have := hfr.on (m + 1) _ d hD1 s1 rfl hd
          simp only [Act.eval, Array.getD_eq_getD_getElem?, this, Option.getD_some]
          exact v1 u b
        have e2 : a'.eval (.tmp x) = .int .i64 y := by
          rw [← hx1]
          have := hfr.agree (hF u b m (Nat.le_refl _)) x (fun j oj hj hoj hdd => ⟨(look x (by simp [Oper.looksAt, Op.operands]) j oj hoj hdd).1, by
            have hj' := (look x (by simp [Oper.looksAt, Op.operands]) j oj hoj hdd).2
            rcases Nat.lt_or_ge j m with hh | hh
            · exact hh
            · exfalso
              obtain rfl | rfl : j = m ∨ j = m + 1 := by omega
              · rw [s0] at hoj; cases hoj
                rw [hoc] at hdd
                exact hx.2.1 (Option.some.inj hdd).symm
              · rw [s1] at hoj; cases hoj
                exact hx.1 (Option.some.inj hdd).symm⟩)
          simp [Act.eval, this]
        unfold Oper.wp
        rw [int_store a'.eval _ _ _ W _ _ b _ y e1 e2 c1 c2]
        refine ⟨Below.setCell hW q1 _, u, b, ?_, fun h => own_setCell (hO (old _ h (by omega))) (hne (old _ h (by omega)) hD1) _, fun _ => ⟨q1, fun _ => q.set y, fun h => (h (.inr rfl)).elim⟩, fun h _ => hne (old _ h (by omega)) hD1⟩
        exact hfr.put (i := m + 2) s2 dist
      · rw [s3] at ho; cases ho
        rw [if_pos (show Region.wanted (⟨some s, .assign (.tmp c), ty3, ps3, af3, none⟩ : Oper) (yielded ops a'.tmps) = true from rfl)]
        have hD0 : D m := (look c (by simp [Oper.looksAt, Op.operands]) m _ s0 hoc).1
        have e1 : a'.eval (.tmp c) = u := by
          have := hfr.on m _ c hD0 s0 hoc hc
          simp only [Act.eval, Array.getD_eq_getD_getElem?, this, Option.getD_some]
          exact v0 u b
        unfold Oper.wp
        have hrun : (execOp a'.eval ⟨some s, .assign (.tmp c), ty3, ps3, af3, none⟩).run Try.prog W = .ok (.value u) W := by
          rw [← e1]
          generalize a'.eval = ev
          simp [execOp, go_sem]
        rw [hrun]
        refine ⟨hW, u, b, ?_, fun h => hO (old _ h (by omega)), fun h => ?_, fun h h' => hne (old _ h (by omega)) (old _ h' (by omega))⟩
        · have := hfr.put (i := m + 3) s3 dist
          rwa [v3] at this
        · obtain ⟨q1, q2, q3⟩ := hB (old _ h (by omega))
          exact ⟨q1, fun h => q2 (old _ h (by omega)), fun h => q3 fun hh => h (.inl hh)⟩
  · rintro D a' W ⟨hW, u, b, hfr, hO, hB, hne⟩ hall
    have dst1 : ∀ i o, i < m + 4 → ops[i]? = some o → ∀ j oj d, j < i → ops[j]? = some oj → o.dst = some d → oj.dst ≠ some d := fun i o hi ho j oj d hj hoj hd hd2 => by
      have := hok.dsts i o hi ho j oj (by omega) hoj d hd hd2
      omega
    have f1 := ((hF u b m (Nat.le_refl _)).put (i := m) s0 (fun j oj d hj hoj => dst1 m _ (by omega) s0 j oj d hj hoj)).same (E := fun j => j < m + 1) (fun j => by show (j < m ∨ j = m) ↔ j < m + 1; omega)
    have f2 := (f1.put (i := m + 1) s1 (fun j oj d hj hoj => dst1 (m + 1) _ (by omega) s1 j oj d hj hoj)).same (E := fun j => j < m + 2) (fun j => by show (j < m + 1 ∨ j = m + 1) ↔ j < m + 2; omega)
    have f3 := (f2.put (i := m + 2) s2 (fun j oj d hj hoj => dst1 (m + 2) _ (by omega) s2 j oj d hj hoj)).same (E := fun j => j < m + 3) (fun j => by show (j < m + 2 ∨ j = m + 2) ↔ j < m + 3; omega)
    have f4 := (f3.put (i := m + 3) s3 (fun j oj d hj hoj => dst1 (m + 3) _ (by omega) s3 j oj d hj hoj)).same (E := fun j => j < m + 4) (fun j => by show (j < m + 3 ∨ j = m + 3) ↔ j < m + 4; omega)
    have e := hfr.ext f4 (fun j hj => ⟨fun _ => by omega, fun _ => hall j hj⟩)
    rw [e, v0, v1, v3, hoc]
    exact hfin u b W hW (hO (hall m (by omega))) ((hB (hall (m + 1) (by omega))).2.1 (hall (m + 2) (by omega)))
end
end Go.Proofs.Ythgbobikbdklhaa
