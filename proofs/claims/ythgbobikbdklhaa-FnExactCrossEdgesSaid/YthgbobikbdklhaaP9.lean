/- Parts of the proof: walks of functions and plain laws. -/
import Derived.Test.YthgbobikbdklhaaP2
import Derived.Test.YthgbobikbdklhaaP7
namespace Go.Proofs.Ythgbobikbdklhaa
open Go Go.RowKit
/-! as wp_region_two, and the new variables lie behind w0 -/
section
variable {P : Program} {ops : Array Oper}
theorem wp_region_two2 {Q : Exit → Act → World → Prop} {rid : Nat} {a : Act} {w w0 : World} (k d1 d2 x1 x2 : Nat) (T : TypeId) (u1 u2 u3 u4 : Int) (hm : P.follows .mixedOrders = true) (hf : flowB ops (k + 4) = true) (hsz : ops.size = k + 4) (hs0 : Since w0 w)
    (s1 : ∃ ty pos af, ops[k]? = some ⟨some d1, .alloc T, ty, pos, af, none⟩) (s2 : ∃ ty pos af, ops[k + 1]? = some ⟨some d2, .alloc T, ty, pos, af, none⟩)
    (s3 : ∃ ty pos af, ops[k + 2]? = some ⟨none, .store T (.tmp d1) (.tmp x1), ty, pos, af, none⟩) (s4 : ∃ ty pos af, ops[k + 3]? = some ⟨none, .store T (.tmp d2) (.tmp x2), ty, pos, af, none⟩)
    (hxd : x1 ≠ d1 ∧ x1 ≠ d2 ∧ x2 ≠ d1 ∧ x2 ≠ d2) (hd1 : d1 < a.tmps.size) (hd2 : d2 < a.tmps.size)
    (hz : ∀ (ev : Operand → Value) (d : Option Tmp) (ty : TypeId) (pos : String) (af : Array Edge) (W : World), (execOp ev ⟨d, .alloc T, ty, pos, af, none⟩).run P W = .ok (.value (ptr W.heap.size)) (W.alloc (.cells #[.int .i64 0, .int .i64 0] T)))
    (hst : ∀ (ev : Operand → Value) (ty : TypeId) (pos : String) (af : Array Edge) (W : World) (p x : Operand) (b : Nat) (q1 q2 : Value) (y1 y2 : Int), ev p = ptr b → ev x = .agg #[.int .i64 y1, .int .i64 y2] → W.cell? ⟨b, 0, none⟩ = some q1 → W.cell? ⟨b, 1, none⟩ = some q2 → W.frozen? ⟨b, 0, none⟩ = false → W.frozen? ⟨b, 1, none⟩ = false →
      (execOp ev ⟨none, .store T p x, ty, pos, af, none⟩).run P W = .ok .skip ((W.setCell ⟨b, 0, none⟩ (.int .i64 y1)).setCell ⟨b, 1, none⟩ (.int .i64 y2)))
    (h : PFlow P ops w0 (fun A => A.eval (.tmp x1) = .agg #[.int .i64 u1, .int .i64 u2] ∧ A.eval (.tmp x2) = .agg #[.int .i64 u3, .int .i64 u4] ∧
      ∀ b1 b2 W, Since w0 W → w0.heap.size ≤ b1 → w0.heap.size ≤ b2 → E2 W T b1 u1 u2 → E2 W T b2 u3 u4 → Q .normal ((A.put (some d1) (ptr b1)).put (some d2) (ptr b2)) W) (ops.toList.take k) a) : (Code.region rid ops true).wp P Q a w := by
  have hok := flow_ok hf
  obtain ⟨vals, F, h0, ⟨hx1, hx2, hfin⟩, hst'⟩ := pflow_frames _ a h
  have hlen : (ops.toList.take k).length = k := by simp; omega
  rw [hlen] at hx1 hx2 hfin
  have hget : ∀ i o, i < k → ops[i]? = some o → (ops.toList.take k)[i]? = some o := fun i o hi ho => by
    rw [List.getElem?_take, if_pos hi]; simpa using ho
  obtain ⟨ty1, ps1, af1, s1⟩ := s1
  obtain ⟨ty2, ps2, af2, s2⟩ := s2
  obtain ⟨ty3, ps3, af3, s3⟩ := s3
  obtain ⟨ty4, ps4, af4, s4⟩ := s4
  have hF0 : ∀ i, i ≤ k → FrameIs a ops vals (fun j => j < i) (F i) := by
    intro i
    induction i with
    | zero => intro _; rw [h0]; exact ⟨rfl, rfl, fun j _ _ hj => absurd hj (by omega), fun _ _ => rfl⟩
    | succ i ih =>
      intro hi
      have hi' : i < ops.size := by omega
      have ho : ops[i]? = some ops[i] := Array.getElem?_eq_getElem hi'
      rw [(hst' i _ (hget i _ (by omega) ho)).2]
      have := (ih (by omega)).put ho (fun j oj d hj hoj hd hd2 => by
        have := hok.dsts i _ (by omega) ho j oj (by omega) hoj d hd hd2
        omega)
      exact ⟨this.defers, this.size, fun j oj t hj => this.on j oj t (by omega), fun t ht => this.off t (fun j oj hj => ht j oj (by omega))⟩
  let V : Nat → Nat → Nat → Value := fun b1 b2 j => if j = k then ptr b1 else if j = k + 1 then ptr b2 else vals j
  have hF : ∀ b1 b2 i, i ≤ k → FrameIs a ops (V b1 b2) (fun j => j < i) (F i) := fun b1 b2 i hi => (hF0 i hi).vals (fun j hj => by show vals j = if j = k then _ else if j = k + 1 then _ else vals j; rw [if_neg (by omega), if_neg (by omega)])
  refine wp_region_inv hm hok.back (fun D a' W => Since w0 W ∧ ∃ b1 b2, FrameIs a ops (V b1 b2) D a' ∧ (D k → w0.heap.size ≤ b1 ∧ (D (k + 2) → E2 W T b1 u1 u2) ∧ (¬ D (k + 2) → E2 W T b1 0 0)) ∧ (D (k + 1) → w0.heap.size ≤ b2 ∧ (D (k + 3) → E2 W T b2 u3 u4) ∧ (¬ D (k + 3) → E2 W T b2 0 0)) ∧ (D k → D (k + 1) → b1 ≠ b2)) ?_ ?_ ?_
  · exact ⟨since_drew hs0, 0, 0, ⟨rfl, rfl, fun j _ _ hj => hj.elim, fun _ _ => rfl⟩, fun h => h.elim, fun h => h.elim, fun h => h.elim⟩
  · rintro D a' W i o ⟨hW, b1, b2, hfr, hB1, hB2, hne⟩ ho hDi hdep hcl
    have hin : i < k + 4 := by have := (Array.getElem?_eq_some_iff.1 ho).1; omega
    -- what the operation looks at
    have look : ∀ t ∈ o.looksAt ops, ∀ j oj, ops[j]? = some oj → oj.dst = some t → D j ∧ j < i := fun t ht j oj hoj hd => by
      have hjn : j < k + 4 := by have := (Array.getElem?_eq_some_iff.1 hoj).1; omega
      have := hok.looks i o hin ho t ht j oj hjn hoj hd
      exact ⟨hdep j this, hok.back i o ho j this⟩
    have dist : ∀ j oj d, D j → ops[j]? = some oj → o.dst = some d → oj.dst ≠ some d := fun j oj d hj hoj hd hd2 => by
      have hjn : j < k + 4 := by have := (Array.getElem?_eq_some_iff.1 hoj).1; omega
      have := hok.dsts i o hin ho j oj hjn hoj d hd hd2
      subst this
      exact hDi hj
    rcases Nat.lt_or_ge i k with hik | hik
    · obtain ⟨⟨hw, hrun⟩, -⟩ := hst' i o (hget i o hik ho)
      have hag : ∀ t ∈ o.looksAt ops, a'.tmps[t]? = (F i).tmps[t]? := fun t ht => hfr.agree (hF b1 b2 i (by omega)) t (fun j oj hj hoj hd => look t ht j oj hoj hd)
      have he : execOp a'.eval o = execOp (F i).eval o := execOp_congr o (fun cs b => hok.nosel i o cs b ho) (fun x hx => by
        cases x with
        | tmp t =>
          have := hag t (List.mem_append_left _ (List.mem_filterMap.2 ⟨.tmp t, by simpa using hx, rfl⟩))
          simp [Act.eval, this]
        | _ => rfl)
      have hw' : Region.wanted o (yielded ops a'.tmps) = true := by
        rw [← hw]
        unfold Region.wanted
        cases hg : o.guard with
        | none => rfl
        | some gw =>
          obtain ⟨g, want⟩ := gw
          have : yielded ops a'.tmps g = yielded ops (F i).tmps g := by
            unfold yielded
            cases ht : (ops[g]?).bind (·.dst) with
            | none => rfl
            | some t =>
              have := hag t (by simp [Oper.looksAt, hg, ht])
              simp [this]
          simp only [this]
      rw [if_pos hw']
      unfold Oper.wp
      rw [he, hrun W hW]
      refine ⟨hW, b1, b2, ?_, fun h => ?_, fun h => ?_, fun h h' => hne (h.elim (fun h => h) fun e => by omega) (h'.elim (fun h => h) fun e => by omega)⟩
      · have := hfr.put (i := i) ho dist
        rwa [show V b1 b2 i = vals i by show (if i = k then _ else if i = k + 1 then _ else vals i) = _; rw [if_neg (by omega), if_neg (by omega)]] at this
      · obtain ⟨q1, q2, q3⟩ := hB1 (h.elim (fun h => h) fun e => by omega)
        exact ⟨q1, fun h => q2 (h.elim (fun h => h) fun e => by omega), fun h => q3 fun hh => h (.inl hh)⟩
      · obtain ⟨q1, q2, q3⟩ := hB2 (h.elim (fun h => h) fun e => by omega)
        exact ⟨q1, fun h => q2 (h.elim (fun h => h) fun e => by omega), fun h => q3 fun hh => h (.inl hh)⟩
    · obtain rfl | rfl | rfl | rfl : i = k ∨ i = k + 1 ∨ i = k + 2 ∨ i = k + 3 := by omega
      · rw [s1] at ho; cases ho
        rw [if_pos (show Region.wanted (⟨some d1, .alloc T, ty1, ps1, af1, none⟩ : Oper) (yielded ops a'.tmps) = true from rfl)]
        unfold Oper.wp
        rw [hz]
        have hn2 : ¬ D (i + 2) := fun h => hDi (hcl _ _ h s3 _ (hok.looks (i + 2) _ (by omega) s3 d1 (by simp [Oper.looksAt, Op.operands]) i _ (by omega) s1 rfl))
        refine ⟨since_alloc _ hW, W.heap.size, b2, ?_, fun _ => ⟨hW.size, fun h => (hn2 (h.elim (fun h => h) fun e => by omega)).elim, fun _ => E2.new W T 0 0⟩, fun h => ?_, fun _ h e => ?_⟩
        · have := (hfr.vals (v' := V W.heap.size b2) (fun j hj => by show (if j = i then _ else if j = i + 1 then _ else vals j) = if j = i then _ else if j = i + 1 then _ else vals j; rw [if_neg (c := j = i) (fun e => hDi (by rw [← e]; exact hj)), if_neg (c := j = i) (fun e => hDi (by rw [← e]; exact hj))])).put (i := i) s1 dist
          rwa [show V W.heap.size b2 i = ptr W.heap.size by show (if i = i then _ else _) = _; rw [if_pos rfl]] at this
        · obtain ⟨q1, q2, q3⟩ := hB2 (h.elim (fun h => h) fun e => by omega)
          exact ⟨q1, fun h => (q2 (h.elim (fun h => h) fun e => by omega)).alloc _, fun h => (q3 fun hh => h (.inl hh)).alloc _⟩
        · obtain ⟨q1, q2, q3⟩ := hB2 (h.elim (fun h => h) fun e => by omega)
          by_cases h3 : D (i + 3)
          · have := (q2 h3).lt; omega
          · have := (q3 h3).lt; omega
      · rw [s2] at ho; cases ho
        rw [if_pos (show Region.wanted (⟨some d2, .alloc T, ty2, ps2, af2, none⟩ : Oper) (yielded ops a'.tmps) = true from rfl)]
        unfold Oper.wp
        rw [hz]
        have hn3 : ¬ D (k + 3) := fun h => hDi (hcl _ _ h s4 _ (hok.looks (k + 3) _ (by omega) s4 d2 (by simp [Oper.looksAt, Op.operands]) (k + 1) _ (by omega) s2 rfl))
        refine ⟨since_alloc _ hW, b1, W.heap.size, ?_, fun h => ?_, fun _ => ⟨hW.size, fun h => (hn3 (h.elim (fun h => h) fun e => by omega)).elim, fun _ => E2.new W T 0 0⟩, fun h _ e => ?_⟩
        · have := (hfr.vals (v' := V b1 W.heap.size) (fun j hj => by show (if j = k then _ else if j = k + 1 then _ else vals j) = if j = k then _ else if j = k + 1 then _ else vals j; rw [if_neg (c := j = k + 1) (fun e => hDi (by rw [← e]; exact hj)), if_neg (c := j = k + 1) (fun e => hDi (by rw [← e]; exact hj))])).put (i := k + 1) s2 dist
          rwa [show V b1 W.heap.size (k + 1) = ptr W.heap.size by show (if k + 1 = k then _ else if k + 1 = k + 1 then _ else _) = _; rw [if_neg (by omega), if_pos rfl]] at this
        · obtain ⟨q1, q2, q3⟩ := hB1 (h.elim (fun h => h) fun e => by omega)
          exact ⟨q1, fun h => (q2 (h.elim (fun h => h) fun e => by omega)).alloc _, fun h => (q3 fun hh => h (.inl hh)).alloc _⟩
        · obtain ⟨q1, q2, q3⟩ := hB1 (h.elim (fun h => h) fun e => by omega)
          by_cases h3 : D (k + 2)
          · have := (q2 h3).lt; omega
          · have := (q3 h3).lt; omega
      · rw [s3] at ho; cases ho
        rw [if_pos (show Region.wanted (⟨none, .store T (.tmp d1) (.tmp x1), ty3, ps3, af3, none⟩ : Oper) (yielded ops a'.tmps) = true from rfl)]
        have hDk : D k := hdep k (hok.looks (k + 2) _ (by omega) s3 d1 (by simp [Oper.looksAt, Op.operands]) k _ (by omega) s1 rfl)
        obtain ⟨q1, q2, q3⟩ := hB1 hDk
        have q := q3 hDi
        obtain ⟨c1, c2, c3, c4⟩ := q.cells
        have e1 : a'.eval (.tmp d1) = ptr b1 := by
          have := hfr.on k _ d1 hDk s1 rfl hd1
          simp only [Act.eval, Array.getD_eq_getD_getElem?, this, Option.getD_some]
          show (if k = k then ptr b1 else _) = _
          rw [if_pos rfl]
        have e2 : a'.eval (.tmp x1) = .agg #[.int .i64 u1, .int .i64 u2] := by
          rw [← hx1]
          have := hfr.agree (hF b1 b2 k (Nat.le_refl _)) x1 (fun j oj hj hoj hd => ⟨(look x1 (by simp [Oper.looksAt, Op.operands]) j oj hoj hd).1, by
            have hj' := (look x1 (by simp [Oper.looksAt, Op.operands]) j oj hoj hd).2
            have hj3 : j < k + 2 := hj'
            rcases Nat.lt_or_ge j k with hh | hh
            · exact hh
            · exfalso
              obtain rfl | rfl : j = k ∨ j = k + 1 := by omega
              · rw [s1] at hoj; cases hoj
                exact hxd.1 (Option.some.inj hd).symm
              · rw [s2] at hoj; cases hoj
                exact hxd.2.1 (Option.some.inj hd).symm⟩)
          simp [Act.eval, this]
        unfold Oper.wp
        rw [hst a'.eval _ _ _ W _ _ b1 _ _ u1 u2 e1 e2 c1 c2 c3 c4]
        refine ⟨Below.setCell (Below.setCell hW q1 _) q1 _, b1, b2, ?_, fun _ => ⟨q1, fun _ => q.set u1 u2, fun h => (h (.inr rfl)).elim⟩, fun h => ?_, fun _ h => hne hDk (h.elim (fun h => h) fun e => by omega)⟩
        · exact hfr.put (i := k + 2) s3 dist
        · obtain ⟨p1, p2, p3⟩ := hB2 (h.elim (fun h => h) fun e => by omega)
          have hb := hne hDk (h.elim (fun h => h) fun e => by omega)
          exact ⟨p1, fun h => ((p2 (h.elim (fun h => h) fun e => by omega)).other (Ne.symm hb) _ _).other (Ne.symm hb) _ _, fun h => ((p3 fun hh => h (.inl hh)).other (Ne.symm hb) _ _).other (Ne.symm hb) _ _⟩
      · rw [s4] at ho; cases ho
        rw [if_pos (show Region.wanted (⟨none, .store T (.tmp d2) (.tmp x2), ty4, ps4, af4, none⟩ : Oper) (yielded ops a'.tmps) = true from rfl)]
        have hDk : D (k + 1) := hdep (k + 1) (hok.looks (k + 3) _ (by omega) s4 d2 (by simp [Oper.looksAt, Op.operands]) (k + 1) _ (by omega) s2 rfl)
        obtain ⟨q1, q2, q3⟩ := hB2 hDk
        have q := q3 hDi
        obtain ⟨c1, c2, c3, c4⟩ := q.cells
        have e1 : a'.eval (.tmp d2) = ptr b2 := by
          have := hfr.on (k + 1) _ d2 hDk s2 rfl hd2
          simp only [Act.eval, Array.getD_eq_getD_getElem?, this, Option.getD_some]
          show (if k + 1 = k then _ else if k + 1 = k + 1 then ptr b2 else _) = _
          rw [if_neg (by omega), if_pos rfl]
        have e2 : a'.eval (.tmp x2) = .agg #[.int .i64 u3, .int .i64 u4] := by
          rw [← hx2]
          have := hfr.agree (hF b1 b2 k (Nat.le_refl _)) x2 (fun j oj hj hoj hd => ⟨(look x2 (by simp [Oper.looksAt, Op.operands]) j oj hoj hd).1, by
            have hj' := (look x2 (by simp [Oper.looksAt, Op.operands]) j oj hoj hd).2
            have hj3 : j < k + 3 := hj'
            rcases Nat.lt_or_ge j k with hh | hh
            · exact hh
            · exfalso
              obtain rfl | rfl | rfl : j = k ∨ j = k + 1 ∨ j = k + 2 := by omega
              · rw [s1] at hoj; cases hoj
                exact hxd.2.2.1 (Option.some.inj hd).symm
              · rw [s2] at hoj; cases hoj
                exact hxd.2.2.2 (Option.some.inj hd).symm
              · rw [s3] at hoj; cases hoj; cases hd⟩)
          simp [Act.eval, this]
        unfold Oper.wp
        rw [hst a'.eval _ _ _ W _ _ b2 _ _ u3 u4 e1 e2 c1 c2 c3 c4]
        refine ⟨Below.setCell (Below.setCell hW q1 _) q1 _, b1, b2, ?_, fun h => ?_, fun _ => ⟨q1, fun _ => q.set u3 u4, fun h => (h (.inr rfl)).elim⟩, fun h _ => hne (h.elim (fun h => h) fun e => by omega) hDk⟩
        · exact hfr.put (i := k + 3) s4 dist
        · obtain ⟨p1, p2, p3⟩ := hB1 (h.elim (fun h => h) fun e => by omega)
          have hb := hne (h.elim (fun h => h) fun e => by omega) hDk
          exact ⟨p1, fun h => ((p2 (h.elim (fun h => h) fun e => by omega)).other hb _ _).other hb _ _, fun h => ((p3 fun hh => h (.inl hh)).other hb _ _).other hb _ _⟩
  · rintro D a' W ⟨hW, b1, b2, hfr, hB1, hB2, hne⟩ hall
    have dst1 : ∀ i o, i < k + 4 → ops[i]? = some o → ∀ j oj d, j < i → ops[j]? = some oj → o.dst = some d → oj.dst ≠ some d := fun i o hi ho j oj d hj hoj hd hd2 => by
      have := hok.dsts i o hi ho j oj (by omega) hoj d hd hd2
      omega
    have f1 := ((hF b1 b2 k (Nat.le_refl _)).put (i := k) s1 (fun j oj d hj hoj => dst1 k _ (by omega) s1 j oj d hj hoj)).same (E := fun j => j < k + 1) (fun j => by show (j < k ∨ j = k) ↔ j < k + 1; omega)
    have f2 := (f1.put (i := k + 1) s2 (fun j oj d hj hoj => dst1 (k + 1) _ (by omega) s2 j oj d hj hoj)).same (E := fun j => j < k + 2) (fun j => by show (j < k + 1 ∨ j = k + 1) ↔ j < k + 2; omega)
    have f3 := (f2.put (i := k + 2) s3 (fun j oj d hj hoj => dst1 (k + 2) _ (by omega) s3 j oj d hj hoj)).same (E := fun j => j < k + 3) (fun j => by show (j < k + 2 ∨ j = k + 2) ↔ j < k + 3; omega)
    have f4 := (f3.put (i := k + 3) s4 (fun j oj d hj hoj => dst1 (k + 3) _ (by omega) s4 j oj d hj hoj)).same (E := fun j => j < k + 4) (fun j => by show (j < k + 3 ∨ j = k + 3) ↔ j < k + 4; omega)
    have e := hfr.ext f4 (fun j hj => ⟨fun _ => by omega, fun _ => hall j hj⟩)
    rw [e]
    have v1 : V b1 b2 k = ptr b1 := by show (if k = k then _ else _) = _; rw [if_pos rfl]
    have v2 : V b1 b2 (k + 1) = ptr b2 := by show (if k + 1 = k then _ else if k + 1 = k + 1 then _ else _) = _; rw [if_neg (by omega), if_pos rfl]
    rw [v1, v2]
    exact hfin b1 b2 W hW (hB1 (hall k (by omega))).1 (hB2 (hall (k + 1) (by omega))).1 ((hB1 (hall k (by omega))).2.1 (hall (k + 2) (by omega))) ((hB2 (hall (k + 1) (by omega))).2.1 (hall (k + 3) (by omega)))
end
end Go.Proofs.Ythgbobikbdklhaa
namespace Go.Proofs.Ythgbobikbdklhaa
open Go.RowKit
set_option maxHeartbeats 4000000 in
theorem atMay_any (ve vi vn : Value) (n : Net) (v i x j : Int) (w : World) (h : NetIn w ve vi vn n) (hp : hasPortB n.ends v i = true) (hq : hasPortB n.ends x j = true) :
    Calls Try.prog 40 #[.agg #[ve, vi, vn], .int .i64 v, .int .i64 i, .int .i64 x, .int .i64 j] w fun e w' => e = .returned (.bool (mayB n.ends (v, i) (x, j))) ∧ Below w.heap.size w w' := by
  obtain ⟨w0, hw0⟩ : ∃ w0, w0 = (((w).alloc (.cells #[ve, vi, vn] 32)).alloc (.cells #[.int .i64 v, .int .i64 i] 57)).alloc (.cells #[.int .i64 x, .int .i64 j] 57) := ⟨_, rfl⟩
  have hb0 : Below w.heap.size w w0 := by rw [hw0]; exact ((((Below.refl _ _).alloc (by simp <;> omega) _).alloc (by simp <;> omega) _).alloc (by simp <;> omega) _)
  have H := Lib.hid (h.keep hb0)
  obtain ⟨h1, h2, h3⟩ := h.keep hb0
  obtain ⟨A, c, rfl, hlc, hm, hA⟩ := h1
  obtain ⟨A2, c2, rfl, _, hm2, _⟩ := h2
  obtain ⟨A3, c3, rfl, _, hm3, _⟩ := h3
  unfold maxLen at hm hm2 hm3
  have p00 : ∀ W, Since w0 W → W.cell? ⟨w.heap.size, 0, none⟩ = some (.slice A n.ends.length c) := have_cell (by rw [hw0]; simp [go_sem])
  have p01 : ∀ W, Since w0 W → W.cell? ⟨w.heap.size, 1, none⟩ = some (.slice A2 n.ids.length c2) := have_cell (by rw [hw0]; simp [go_sem])
  have p02 : ∀ W, Since w0 W → W.cell? ⟨w.heap.size, 2, none⟩ = some (.slice A3 n.inputs.length c3) := have_cell (by rw [hw0]; simp [go_sem])
  have p10 : ∀ W, Since w0 W → W.cell? ⟨w.heap.size + 1, 0, none⟩ = some (.int .i64 v) := have_cell (by rw [hw0]; simp [go_sem])
  have p11 : ∀ W, Since w0 W → W.cell? ⟨w.heap.size + 1, 1, none⟩ = some (.int .i64 i) := have_cell (by rw [hw0]; simp [go_sem])
  have p20 : ∀ W, Since w0 W → W.cell? ⟨w.heap.size + 1 + 1, 0, none⟩ = some (.int .i64 x) := have_cell (by rw [hw0]; simp [go_sem])
  have p21 : ∀ W, Since w0 W → W.cell? ⟨w.heap.size + 1 + 1, 1, none⟩ = some (.int .i64 j) := have_cell (by rw [hw0]; simp [go_sem])
  have Hb0 := Lib.hid hb0
  have Hw0 := Lib.hid hw0
  have HA := Lib.hid hA
  clear hA h
  clear hb0 hw0
  obtain ⟨k1, j1, b, off, c', b1, off1, z1, es1, y1, y2, rfl, rfl, hA, hk1, -, hj1, -, hat1, hz1, hz1', hc1, hc2, hc3⟩ := port_at H.out.es hp
  cases hA
  obtain ⟨k2, j2, b', off', c', b2, off2, z2, es2, y3, y4, rfl, rfl, hA, hk2, -, hj2, -, hat2, hz2, hz2', hc4, hc5, hc6⟩ := port_at H.out.es hq
  cases hA
  have hr := Lib.hid (show mayB n.ends ((k1 : Int), (j1 : Int)) ((k2 : Int), (j2 : Int)) = (!eqE ((k1 : Int), (j1 : Int)) ((k2 : Int), (j2 : Int)) && !eqE (y1, y2) ((k2 : Int), (j2 : Int)) && !eqE (y1, y2) ((k1 : Int), (j1 : Int)) && !eqE (y3, y4) ((k2 : Int), (j2 : Int))) by simp only [mayB, hat1, hat2])
  have r1 := have_cell hc1
  have r2 := have_cell hc2
  have r3 := have_cell hc3
  have r4 := have_cell hc4
  have r5 := have_cell hc5
  have r6 := have_cell hc6
  clear hc1 hc2 hc3 hc4 hc5 hc6 hat1 hat2 hp hq
  go_enter Try.func40, Try.ntmps40
  go_upto_region 2 with (fail)
  rw [← Hw0.out]
  refine wp_region_two (w0 := w0) 16 13 14 28 36 57 y1 y2 y3 y4 (by kernel_rfl) (by kernel_rfl) rfl (since_refl _) ⟨_, _, _, rfl⟩ ⟨_, _, _, rfl⟩ ⟨_, _, _, rfl⟩ ⟨_, _, _, rfl⟩ (by decide) (by simp) (by simp) end_zero end_store ?_
  simp only [List.take_succ_cons, List.take_zero]
  refine pflow_val (v := ?_) rfl ?_ ?_; rotate_left; (intro W hW; go_simp; with_reducible rfl)
  simp only [Act.put, List.setIfInBounds_toArray, List.set_cons_succ, List.set_cons_zero]
  refine pflow_val (v := ?_) rfl ?_ ?_; rotate_left; (intro W hW; go_simp; with_reducible rfl)
  simp only [Act.put, List.setIfInBounds_toArray, List.set_cons_succ, List.set_cons_zero]
  refine pflow_val (v := ?_) rfl ?_ ?_; rotate_left; (intro W hW; go_simp; with_reducible rfl)
  simp only [Act.put, List.setIfInBounds_toArray, List.set_cons_succ, List.set_cons_zero]
  refine pflow_val (v := ?_) rfl ?_ ?_; rotate_left; (intro W hW; go_simp; with_reducible rfl)
  simp only [Act.put, List.setIfInBounds_toArray, List.set_cons_succ, List.set_cons_zero]
  refine pflow_val (v := ?_) rfl ?_ ?_; rotate_left; (intro W hW; go_simp; with_reducible rfl)
  simp only [Act.put, List.setIfInBounds_toArray, List.set_cons_succ, List.set_cons_zero]
  refine pflow_val (v := ?_) rfl ?_ ?_; rotate_left; (intro W hW; go_simp; with_reducible rfl)
  simp only [Act.put, List.setIfInBounds_toArray, List.set_cons_succ, List.set_cons_zero]
  refine pflow_val (v := ?_) rfl ?_ ?_; rotate_left; (intro W hW; go_simp; with_reducible rfl)
  simp only [Act.put, List.setIfInBounds_toArray, List.set_cons_succ, List.set_cons_zero]
  refine pflow_val (v := ?_) rfl ?_ ?_; rotate_left; (intro W hW; go_simp; with_reducible rfl)
  simp only [Act.put, List.setIfInBounds_toArray, List.set_cons_succ, List.set_cons_zero]
  refine pflow_val (v := ?_) rfl ?_ ?_; rotate_left; (intro W hW; go_simp; with_reducible rfl)
  simp only [Act.put, List.setIfInBounds_toArray, List.set_cons_succ, List.set_cons_zero]
  refine pflow_val (v := ?_) rfl ?_ ?_; rotate_left; (intro W hW; go_simp; with_reducible rfl)
  simp only [Act.put, List.setIfInBounds_toArray, List.set_cons_succ, List.set_cons_zero]
  refine pflow_val (v := ?_) rfl ?_ ?_; rotate_left; (intro W hW; go_simp; with_reducible rfl)
  simp only [Act.put, List.setIfInBounds_toArray, List.set_cons_succ, List.set_cons_zero]
  refine pflow_val (v := ?_) rfl ?_ ?_; rotate_left; (intro W hW; go_simp; with_reducible rfl)
  simp only [Act.put, List.setIfInBounds_toArray, List.set_cons_succ, List.set_cons_zero]
  refine pflow_val (v := ?_) rfl ?_ ?_; rotate_left; (intro W hW; go_simp; with_reducible rfl)
  simp only [Act.put, List.setIfInBounds_toArray, List.set_cons_succ, List.set_cons_zero]
  refine pflow_val (v := ?_) rfl ?_ ?_; rotate_left; (intro W hW; go_simp; with_reducible rfl)
  simp only [Act.put, List.setIfInBounds_toArray, List.set_cons_succ, List.set_cons_zero]
  refine pflow_val (v := ?_) rfl ?_ ?_; rotate_left; (intro W hW; go_simp; with_reducible rfl)
  simp only [Act.put, List.setIfInBounds_toArray, List.set_cons_succ, List.set_cons_zero]
  refine pflow_val (v := ?_) rfl ?_ ?_; rotate_left; (intro W hW; go_simp; with_reducible rfl)
  simp only [Act.put, List.setIfInBounds_toArray, List.set_cons_succ, List.set_cons_zero]
  refine ⟨rfl, rfl, ?_⟩
  intro b1' b2' W1 hW1 hE1 hE2
  simp only [Act.put, List.setIfInBounds_toArray, List.set_cons_succ, List.set_cons_zero]
  have q0 := lift_cell p10 hW1
  have q1 := lift_cell p11 hW1
  have q2 := lift_cell p20 hW1
  have q3 := lift_cell p21 hW1
  have s0 := have_cell hE1.cells.1
  have s1 := have_cell hE1.cells.2.1
  have s2 := have_cell hE2.cells.1
  have s3 := have_cell hE2.cells.2.1
  have HW1 := Lib.hid hW1
  clear hW1 hE1 hE2 p00 p01 p02 p10 p11 p20 p21 r1 r2 r3 r4 r5 r6
  unfold ptr
  go_upto_region 3 with (fail)
  refine wp_region_flow0 19 (Since W1) (since_refl _) ?_
  simp only [List.take_succ_cons, List.take_zero, List.drop_succ_cons, List.drop_zero]
  refine flow_val (v := ?_) rfl ?_ ?_; rotate_left; (intro W hW; go_simp; with_reducible rfl)
  simp only [Act.put, List.setIfInBounds_toArray, List.set_cons_succ, List.set_cons_zero]
  refine flow_val (v := ?_) rfl ?_ ?_; rotate_left; (intro W hW; go_simp; with_reducible rfl)
  simp only [Act.put, List.setIfInBounds_toArray, List.set_cons_succ, List.set_cons_zero]
  refine flow_val (v := ?_) rfl ?_ ?_; rotate_left; (intro W hW; go_simp; with_reducible rfl)
  simp only [Act.put, List.setIfInBounds_toArray, List.set_cons_succ, List.set_cons_zero]
  refine flow_val (v := ?_) rfl ?_ ?_; rotate_left; (intro W hW; go_simp; with_reducible rfl)
  simp only [Act.put, List.setIfInBounds_toArray, List.set_cons_succ, List.set_cons_zero]
  refine flow_gval (v := ?_) rfl rfl ?_ ?_; rotate_left; (intro hb; intro W hW; go_simp; with_reducible rfl)
  simp only [Act.put, List.setIfInBounds_toArray, List.set_cons_succ, List.set_cons_zero]
  refine flow_gval (v := ?_) rfl rfl ?_ ?_; rotate_left; (intro hb; intro W hW; go_simp; with_reducible rfl)
  simp only [Act.put, List.setIfInBounds_toArray, List.set_cons_succ, List.set_cons_zero]
  refine flow_gval (v := ?_) rfl rfl ?_ ?_; rotate_left; (intro hb; intro W hW; go_simp; with_reducible rfl)
  simp only [Act.put, List.setIfInBounds_toArray, List.set_cons_succ, List.set_cons_zero]
  first | refine flow_and rfl rfl ?_ | (refine flow_val (v := ?_) rfl ?_ ?_; rotate_left; (intro W hW; go_simp; with_reducible rfl))
  simp only [Act.put, List.setIfInBounds_toArray, List.set_cons_succ, List.set_cons_zero]
  refine flow_val (v := ?_) rfl ?_ ?_; rotate_left; (intro W hW; go_simp; with_reducible rfl)
  simp only [Act.put, List.setIfInBounds_toArray, List.set_cons_succ, List.set_cons_zero]
  refine flow_gval (v := ?_) rfl rfl ?_ ?_; rotate_left; (intro hb; intro W hW; go_simp; with_reducible rfl)
  simp only [Act.put, List.setIfInBounds_toArray, List.set_cons_succ, List.set_cons_zero]
  refine flow_gval (v := ?_) rfl rfl ?_ ?_; rotate_left; (intro hb; intro W hW; go_simp; with_reducible rfl)
  simp only [Act.put, List.setIfInBounds_toArray, List.set_cons_succ, List.set_cons_zero]
  refine flow_gval (v := ?_) rfl rfl ?_ ?_; rotate_left; (intro hb; intro W hW; go_simp; with_reducible rfl)
  simp only [Act.put, List.setIfInBounds_toArray, List.set_cons_succ, List.set_cons_zero]
  first | refine flow_and rfl rfl ?_ | (refine flow_val (v := ?_) rfl ?_ ?_; rotate_left; (intro W hW; go_simp; with_reducible rfl))
  simp only [Act.put, List.setIfInBounds_toArray, List.set_cons_succ, List.set_cons_zero]
  refine flow_val (v := ?_) rfl ?_ ?_; rotate_left; (intro W hW; go_simp; with_reducible rfl)
  simp only [Act.put, List.setIfInBounds_toArray, List.set_cons_succ, List.set_cons_zero]
  refine flow_gval (v := ?_) rfl rfl ?_ ?_; rotate_left; (intro hb; intro W hW; go_simp; with_reducible rfl)
  simp only [Act.put, List.setIfInBounds_toArray, List.set_cons_succ, List.set_cons_zero]
  refine flow_gval (v := ?_) rfl rfl ?_ ?_; rotate_left; (intro hb; intro W hW; go_simp; with_reducible rfl)
  simp only [Act.put, List.setIfInBounds_toArray, List.set_cons_succ, List.set_cons_zero]
  refine flow_gval (v := ?_) rfl rfl ?_ ?_; rotate_left; (intro hb; intro W hW; go_simp; with_reducible rfl)
  simp only [Act.put, List.setIfInBounds_toArray, List.set_cons_succ, List.set_cons_zero]
  first | refine flow_and rfl rfl ?_ | (refine flow_val (v := ?_) rfl ?_ ?_; rotate_left; (intro W hW; go_simp; with_reducible rfl))
  simp only [Act.put, List.setIfInBounds_toArray, List.set_cons_succ, List.set_cons_zero]
  refine flow_val (v := ?_) rfl ?_ ?_; rotate_left; (intro W hW; go_simp; with_reducible rfl)
  simp only [Act.put, List.setIfInBounds_toArray, List.set_cons_succ, List.set_cons_zero]
  intro W2 hW2
  have HW := Lib.hid hW2
  clear hW2
  go_wp2
  go_ret
  exact ⟨ret_bool hr.out.symm, Since.after Hb0.out (HW1.out.after HW.out)⟩
end Go.Proofs.Ythgbobikbdklhaa
namespace Go.Proofs.Ythgbobikbdklhaa
open Go.RowKit
set_option maxHeartbeats 4000000 in
theorem canCross_any (ve vi vn : Value) (n : Net) (v i x j : Int) (w : World) (h : NetIn w ve vi vn n) (hp : hasPortB n.ends v i = true) (hq : hasPortB n.ends x j = true) :
    Calls Try.prog 43 #[.agg #[ve, vi, vn], .agg #[.int .i64 v, .int .i64 i], .agg #[.int .i64 x, .int .i64 j]] w fun e w' => e = .returned (.bool (mayB n.ends (v, i) (x, j))) ∧ Below w.heap.size w w' := by
  obtain ⟨w0, hw0⟩ : ∃ w0, w0 = (((w).alloc (.cells #[ve, vi, vn] 32)).alloc (.cells #[.int .i64 v, .int .i64 i] 57)).alloc (.cells #[.int .i64 x, .int .i64 j] 57) := ⟨_, rfl⟩
  have hb0 : Below w.heap.size w w0 := by rw [hw0]; exact ((((Below.refl _ _).alloc (by simp <;> omega) _).alloc (by simp <;> omega) _).alloc (by simp <;> omega) _)
  have H := Lib.hid (h.keep hb0)
  obtain ⟨h1, h2, h3⟩ := h.keep hb0
  obtain ⟨A, c, rfl, hlc, hm, hA⟩ := h1
  obtain ⟨A2, c2, rfl, _, hm2, _⟩ := h2
  obtain ⟨A3, c3, rfl, _, hm3, _⟩ := h3
  unfold maxLen at hm hm2 hm3
  have p00 : ∀ W, Since w0 W → W.cell? ⟨w.heap.size, 0, none⟩ = some (.slice A n.ends.length c) := have_cell (by rw [hw0]; simp [go_sem])
  have p01 : ∀ W, Since w0 W → W.cell? ⟨w.heap.size, 1, none⟩ = some (.slice A2 n.ids.length c2) := have_cell (by rw [hw0]; simp [go_sem])
  have p02 : ∀ W, Since w0 W → W.cell? ⟨w.heap.size, 2, none⟩ = some (.slice A3 n.inputs.length c3) := have_cell (by rw [hw0]; simp [go_sem])
  have p10 : ∀ W, Since w0 W → W.cell? ⟨w.heap.size + 1, 0, none⟩ = some (.int .i64 v) := have_cell (by rw [hw0]; simp [go_sem])
  have p11 : ∀ W, Since w0 W → W.cell? ⟨w.heap.size + 1, 1, none⟩ = some (.int .i64 i) := have_cell (by rw [hw0]; simp [go_sem])
  have p20 : ∀ W, Since w0 W → W.cell? ⟨w.heap.size + 1 + 1, 0, none⟩ = some (.int .i64 x) := have_cell (by rw [hw0]; simp [go_sem])
  have p21 : ∀ W, Since w0 W → W.cell? ⟨w.heap.size + 1 + 1, 1, none⟩ = some (.int .i64 j) := have_cell (by rw [hw0]; simp [go_sem])
  have Hb0 := Lib.hid hb0
  have Hw0 := Lib.hid hw0
  have HA := Lib.hid hA
  clear hA h
  clear hb0 hw0
  obtain ⟨k1, j1, b, off, c', b1, off1, z1, es1, y1, y2, rfl, rfl, hA, hk1, -, hj1, -, hat1, hz1, hz1', hc1, hc2, hc3⟩ := port_at H.out.es hp
  cases hA
  obtain ⟨k2, j2, b', off', c', b2, off2, z2, es2, y3, y4, rfl, rfl, hA, hk2, -, hj2, -, hat2, hz2, hz2', hc4, hc5, hc6⟩ := port_at H.out.es hq
  cases hA
  have hr := Lib.hid (show mayB n.ends ((k1 : Int), (j1 : Int)) ((k2 : Int), (j2 : Int)) = (!eqE ((k1 : Int), (j1 : Int)) ((k2 : Int), (j2 : Int)) && !eqE (y1, y2) ((k2 : Int), (j2 : Int)) && !eqE (y1, y2) ((k1 : Int), (j1 : Int)) && !eqE (y3, y4) ((k2 : Int), (j2 : Int))) by simp only [mayB, hat1, hat2])
  have r1 := have_cell hc1
  have r2 := have_cell hc2
  have r3 := have_cell hc3
  have r4 := have_cell hc4
  have r5 := have_cell hc5
  have r6 := have_cell hc6
  clear hc1 hc2 hc3 hc4 hc5 hc6 hat1 hat2 hp hq
  go_enter Try.func43, Try.ntmps43
  go_upto_region 1 with (fail)
  rw [← Hw0.out]
  refine wp_region_two (w0 := w0) 20 7 8 18 28 57 y1 y2 y3 y4 (by kernel_rfl) (by kernel_rfl) rfl (since_refl _) ⟨_, _, _, rfl⟩ ⟨_, _, _, rfl⟩ ⟨_, _, _, rfl⟩ ⟨_, _, _, rfl⟩ (by decide) (by simp) (by simp) end_zero end_store ?_
  simp only [List.take_succ_cons, List.take_zero]
  refine pflow_val (v := ?_) rfl ?_ ?_; rotate_left; (intro W hW; go_simp; with_reducible rfl)
  simp only [Act.put, List.setIfInBounds_toArray, List.set_cons_succ, List.set_cons_zero]
  refine pflow_val (v := ?_) rfl ?_ ?_; rotate_left; (intro W hW; go_simp; with_reducible rfl)
  simp only [Act.put, List.setIfInBounds_toArray, List.set_cons_succ, List.set_cons_zero]
  refine pflow_val (v := ?_) rfl ?_ ?_; rotate_left; (intro W hW; go_simp; with_reducible rfl)
  simp only [Act.put, List.setIfInBounds_toArray, List.set_cons_succ, List.set_cons_zero]
  refine pflow_val (v := ?_) rfl ?_ ?_; rotate_left; (intro W hW; go_simp; with_reducible rfl)
  simp only [Act.put, List.setIfInBounds_toArray, List.set_cons_succ, List.set_cons_zero]
  refine pflow_val (v := ?_) rfl ?_ ?_; rotate_left; (intro W hW; go_simp; with_reducible rfl)
  simp only [Act.put, List.setIfInBounds_toArray, List.set_cons_succ, List.set_cons_zero]
  refine pflow_val (v := ?_) rfl ?_ ?_; rotate_left; (intro W hW; go_simp; with_reducible rfl)
  simp only [Act.put, List.setIfInBounds_toArray, List.set_cons_succ, List.set_cons_zero]
  refine pflow_val (v := ?_) rfl ?_ ?_; rotate_left; (intro W hW; go_simp; with_reducible rfl)
  simp only [Act.put, List.setIfInBounds_toArray, List.set_cons_succ, List.set_cons_zero]
  refine pflow_val (v := ?_) rfl ?_ ?_; rotate_left; (intro W hW; go_simp; with_reducible rfl)
  simp only [Act.put, List.setIfInBounds_toArray, List.set_cons_succ, List.set_cons_zero]
  refine pflow_val (v := ?_) rfl ?_ ?_; rotate_left; (intro W hW; go_simp; with_reducible rfl)
  simp only [Act.put, List.setIfInBounds_toArray, List.set_cons_succ, List.set_cons_zero]
  refine pflow_val (v := ?_) rfl ?_ ?_; rotate_left; (intro W hW; go_simp; with_reducible rfl)
  simp only [Act.put, List.setIfInBounds_toArray, List.set_cons_succ, List.set_cons_zero]
  refine pflow_val (v := ?_) rfl ?_ ?_; rotate_left; (intro W hW; go_simp; with_reducible rfl)
  simp only [Act.put, List.setIfInBounds_toArray, List.set_cons_succ, List.set_cons_zero]
  refine pflow_val (v := ?_) rfl ?_ ?_; rotate_left; (intro W hW; go_simp; with_reducible rfl)
  simp only [Act.put, List.setIfInBounds_toArray, List.set_cons_succ, List.set_cons_zero]
  refine pflow_val (v := ?_) rfl ?_ ?_; rotate_left; (intro W hW; go_simp; with_reducible rfl)
  simp only [Act.put, List.setIfInBounds_toArray, List.set_cons_succ, List.set_cons_zero]
  refine pflow_val (v := ?_) rfl ?_ ?_; rotate_left; (intro W hW; go_simp; with_reducible rfl)
  simp only [Act.put, List.setIfInBounds_toArray, List.set_cons_succ, List.set_cons_zero]
  refine pflow_val (v := ?_) rfl ?_ ?_; rotate_left; (intro W hW; go_simp; with_reducible rfl)
  simp only [Act.put, List.setIfInBounds_toArray, List.set_cons_succ, List.set_cons_zero]
  refine pflow_val (v := ?_) rfl ?_ ?_; rotate_left; (intro W hW; go_simp; with_reducible rfl)
  simp only [Act.put, List.setIfInBounds_toArray, List.set_cons_succ, List.set_cons_zero]
  refine pflow_val (v := ?_) rfl ?_ ?_; rotate_left; (intro W hW; go_simp; with_reducible rfl)
  simp only [Act.put, List.setIfInBounds_toArray, List.set_cons_succ, List.set_cons_zero]
  refine pflow_val (v := ?_) rfl ?_ ?_; rotate_left; (intro W hW; go_simp; with_reducible rfl)
  simp only [Act.put, List.setIfInBounds_toArray, List.set_cons_succ, List.set_cons_zero]
  refine pflow_val (v := ?_) rfl ?_ ?_; rotate_left; (intro W hW; go_simp; with_reducible rfl)
  simp only [Act.put, List.setIfInBounds_toArray, List.set_cons_succ, List.set_cons_zero]
  refine pflow_val (v := ?_) rfl ?_ ?_; rotate_left; (intro W hW; go_simp; with_reducible rfl)
  simp only [Act.put, List.setIfInBounds_toArray, List.set_cons_succ, List.set_cons_zero]
  refine ⟨rfl, rfl, ?_⟩
  intro b1' b2' W1 hW1 hE1 hE2
  simp only [Act.put, List.setIfInBounds_toArray, List.set_cons_succ, List.set_cons_zero]
  have q0 := lift_cell p10 hW1
  have q1 := lift_cell p11 hW1
  have q2 := lift_cell p20 hW1
  have q3 := lift_cell p21 hW1
  have s0 := have_cell hE1.cells.1
  have s1 := have_cell hE1.cells.2.1
  have s2 := have_cell hE2.cells.1
  have s3 := have_cell hE2.cells.2.1
  have HW1 := Lib.hid hW1
  clear hW1 hE1 hE2 p00 p01 p02 p10 p11 p20 p21 r1 r2 r3 r4 r5 r6
  unfold ptr
  go_upto_region 2 with (fail)
  refine wp_region_flow0 19 (Since W1) (since_refl _) ?_
  simp only [List.take_succ_cons, List.take_zero, List.drop_succ_cons, List.drop_zero]
  refine flow_val (v := ?_) rfl ?_ ?_; rotate_left; (intro W hW; go_simp; with_reducible rfl)
  simp only [Act.put, List.setIfInBounds_toArray, List.set_cons_succ, List.set_cons_zero]
  refine flow_val (v := ?_) rfl ?_ ?_; rotate_left; (intro W hW; go_simp; with_reducible rfl)
  simp only [Act.put, List.setIfInBounds_toArray, List.set_cons_succ, List.set_cons_zero]
  refine flow_val (v := ?_) rfl ?_ ?_; rotate_left; (intro W hW; go_simp; with_reducible rfl)
  simp only [Act.put, List.setIfInBounds_toArray, List.set_cons_succ, List.set_cons_zero]
  refine flow_val (v := ?_) rfl ?_ ?_; rotate_left; (intro W hW; go_simp; with_reducible rfl)
  simp only [Act.put, List.setIfInBounds_toArray, List.set_cons_succ, List.set_cons_zero]
  refine flow_gval (v := ?_) rfl rfl ?_ ?_; rotate_left; (intro hb; intro W hW; go_simp; with_reducible rfl)
  simp only [Act.put, List.setIfInBounds_toArray, List.set_cons_succ, List.set_cons_zero]
  refine flow_gval (v := ?_) rfl rfl ?_ ?_; rotate_left; (intro hb; intro W hW; go_simp; with_reducible rfl)
  simp only [Act.put, List.setIfInBounds_toArray, List.set_cons_succ, List.set_cons_zero]
  refine flow_gval (v := ?_) rfl rfl ?_ ?_; rotate_left; (intro hb; intro W hW; go_simp; with_reducible rfl)
  simp only [Act.put, List.setIfInBounds_toArray, List.set_cons_succ, List.set_cons_zero]
  first | refine flow_and rfl rfl ?_ | (refine flow_val (v := ?_) rfl ?_ ?_; rotate_left; (intro W hW; go_simp; with_reducible rfl))
  simp only [Act.put, List.setIfInBounds_toArray, List.set_cons_succ, List.set_cons_zero]
  refine flow_val (v := ?_) rfl ?_ ?_; rotate_left; (intro W hW; go_simp; with_reducible rfl)
  simp only [Act.put, List.setIfInBounds_toArray, List.set_cons_succ, List.set_cons_zero]
  refine flow_gval (v := ?_) rfl rfl ?_ ?_; rotate_left; (intro hb; intro W hW; go_simp; with_reducible rfl)
  simp only [Act.put, List.setIfInBounds_toArray, List.set_cons_succ, List.set_cons_zero]
  refine flow_gval (v := ?_) rfl rfl ?_ ?_; rotate_left; (intro hb; intro W hW; go_simp; with_reducible rfl)
  simp only [Act.put, List.setIfInBounds_toArray, List.set_cons_succ, List.set_cons_zero]
  refine flow_gval (v := ?_) rfl rfl ?_ ?_; rotate_left; (intro hb; intro W hW; go_simp; with_reducible rfl)
  simp only [Act.put, List.setIfInBounds_toArray, List.set_cons_succ, List.set_cons_zero]
  first | refine flow_and rfl rfl ?_ | (refine flow_val (v := ?_) rfl ?_ ?_; rotate_left; (intro W hW; go_simp; with_reducible rfl))
  simp only [Act.put, List.setIfInBounds_toArray, List.set_cons_succ, List.set_cons_zero]
  refine flow_val (v := ?_) rfl ?_ ?_; rotate_left; (intro W hW; go_simp; with_reducible rfl)
  simp only [Act.put, List.setIfInBounds_toArray, List.set_cons_succ, List.set_cons_zero]
  refine flow_gval (v := ?_) rfl rfl ?_ ?_; rotate_left; (intro hb; intro W hW; go_simp; with_reducible rfl)
  simp only [Act.put, List.setIfInBounds_toArray, List.set_cons_succ, List.set_cons_zero]
  refine flow_gval (v := ?_) rfl rfl ?_ ?_; rotate_left; (intro hb; intro W hW; go_simp; with_reducible rfl)
  simp only [Act.put, List.setIfInBounds_toArray, List.set_cons_succ, List.set_cons_zero]
  refine flow_gval (v := ?_) rfl rfl ?_ ?_; rotate_left; (intro hb; intro W hW; go_simp; with_reducible rfl)
  simp only [Act.put, List.setIfInBounds_toArray, List.set_cons_succ, List.set_cons_zero]
  first | refine flow_and rfl rfl ?_ | (refine flow_val (v := ?_) rfl ?_ ?_; rotate_left; (intro W hW; go_simp; with_reducible rfl))
  simp only [Act.put, List.setIfInBounds_toArray, List.set_cons_succ, List.set_cons_zero]
  refine flow_val (v := ?_) rfl ?_ ?_; rotate_left; (intro W hW; go_simp; with_reducible rfl)
  simp only [Act.put, List.setIfInBounds_toArray, List.set_cons_succ, List.set_cons_zero]
  intro W2 hW2
  have HW := Lib.hid hW2
  clear hW2
  go_wp2
  go_ret
  exact ⟨ret_bool hr.out.symm, Since.after Hb0.out (HW1.out.after HW.out)⟩
end Go.Proofs.Ythgbobikbdklhaa
