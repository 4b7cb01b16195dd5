/- Parts of the proof: walks of functions and plain laws. -/
import Derived.Test.YtgmdpppljkmabaaGreatP0
import Derived.Test.YtgmdpppljkmabaaGreatP2
import Derived.Test.YtgmdpppljkmabaaGreatP5
import Derived.Test.YtgmdpppljkmabaaGreatP7
import Derived.LoopN
namespace Go.Proofs.YtgmdpppljkmabaaGreat
open Go Go.RowKit
/-! as wp_region_two, and the new variables lie behind w0 -/
section
variable {P : Program} {ops : Array Oper}
theorem wp_region_two2 {Q : Exit → Act → World → Prop} {rid : Nat} {a : Act} {w w0 : World} (k d1 d2 x1 x2 : Nat) (T : TypeId) (u1 u2 u3 u4 : Int) (hm : P.follows .mixedOrders = true) (hf : flowB ops (k + 4) = true) (hsz : ops.size = k + 4) (hs0 : Since w0 w)
  (s1 : ∃ ty pos af, ops[k]? = some ⟨some d1, .alloc T, ty, pos, af, none⟩) (s2 : ∃ ty pos af, ops[k + 1]? = some ⟨some d2, .alloc T, ty, pos, af, none⟩)
  (s3 : ∃ ty pos af, ops[k + 2]? = some ⟨none, .store T (.tmp d1) (.tmp x1), ty, pos, af, none⟩) (s4 : ∃ ty pos af, ops[k + 3]? = some ⟨none, .store T (.tmp d2) (.tmp x2), ty, pos, af, none⟩)
  (hxd : x1 ≠ d1 ∧ x1 ≠ d2 ∧ x2 ≠ d1 ∧ x2 ≠ d2) (hd1 : d1 < a.tmps.size) (hd2 : d2 < a.tmps.size)
  (hz : ∀ (ev : Operand → Value) (d : Option Tmp) (ty : TypeId) (pos : String) (af : Array Edge) (W : World), (execOp ev ⟨d, .alloc T, ty, pos, af, none⟩).run P W = .ok (.value (ptr W.heap.size)) (W.alloc (.cells #[.int .i64 0, .int .i64 0] T)))
  (hst : ∀ (ev : Operand → Value) (ty : TypeId) (pos : String) (af : Array Edge) (W : World) (p x : Operand) (b : Nat) (q1 q2 : Value) (y1 y2 : Int), ev p = ptr b → ev x = .agg #[.int .i64 y1, .int .i64 y2] → W.cell? ⟨b, 0, none⟩ = some q1 → W.cell? ⟨b, 1, none⟩ = some q2 → W.frozen? ⟨b, 0, none⟩ = false → W.frozen? ⟨b, 1, none⟩ = false →
   (execOp ev ⟨none, .store T p x, ty, pos, af, none⟩).run P W = .ok .skip ((W.setCell ⟨b, 0, none⟩ (.int .i64 y1)).setCell ⟨b, 1, none⟩ (.int .i64 y2)))
  (h : PFlow P ops w0 (fun A => A.eval (.tmp x1) = .agg #[.int .i64 u1, .int .i64 u2] ∧ A.eval (.tmp x2) = .agg #[.int .i64 u3, .int .i64 u4] ∧
   ∀ b1 b2 W, Since w0 W → w0.heap.size ≤ b1 → w0.heap.size ≤ b2 → E2 W T b1 u1 u2 → E2 W T b2 u3 u4 → Q .normal ((A.put (some d1) (ptr b1)).put (some d2) (ptr b2)) W) (ops.toList.take k) a) : (Code.region rid ops true).wp P Q a w := by
 have hok := flow_ok hf
 obtain ⟨vals, F, h0, ⟨hx1, hx2, hfin⟩, hst'⟩ := pflow_frames _ a h
 have hlen : (ops.toList.take k).length = k := by simp; omega
 rw [hlen] at hx1 hx2 hfin
 have hget : ∀ i o, i < k → ops[i]? = some o → (ops.toList.take k)[i]? = some o := fun i o hi ho => by
  rw [List.getElem?_take, if_pos hi]; simpa using ho
 obtain ⟨ty1, ps1, af1, s1⟩ := s1
 obtain ⟨ty2, ps2, af2, s2⟩ := s2
 obtain ⟨ty3, ps3, af3, s3⟩ := s3
 obtain ⟨ty4, ps4, af4, s4⟩ := s4
 have hF0 : ∀ i, i ≤ k → FrameIs a ops vals (fun j => j < i) (F i) := by
  intro i
  induction i with
  | zero => intro _; rw [h0]; exact ⟨rfl, rfl, fun j _ _ hj => absurd hj (by omega), fun _ _ => rfl⟩
  | succ i ih =>
   intro hi
   have hi' : i < ops.size := by omega
   have ho : ops[i]? = some ops[i] := Array.getElem?_eq_getElem hi'
   rw [(hst' i _ (hget i _ (by omega) ho)).2]
   have := (ih (by omega)).put ho (fun j oj d hj hoj hd hd2 => by
    have := hok.dsts i _ (by omega) ho j oj (by omega) hoj d hd hd2
    omega)
   exact ⟨this.defers, this.size, fun j oj t hj => this.on j oj t (by omega), fun t ht => this.off t (fun j oj hj => ht j oj (by omega))⟩
 let V : Nat → Nat → Nat → Value := fun b1 b2 j => if j = k then ptr b1 else if j = k + 1 then ptr b2 else vals j
 have hF : ∀ b1 b2 i, i ≤ k → FrameIs a ops (V b1 b2) (fun j => j < i) (F i) := fun b1 b2 i hi => (hF0 i hi).vals (fun j hj => by show vals j = if j = k then _ else if j = k + 1 then _ else vals j; rw [if_neg (by omega), if_neg (by omega)])
 refine wp_region_inv hm hok.back (fun D a' W => Since w0 W ∧ ∃ b1 b2, FrameIs a ops (V b1 b2) D a' ∧ (D k → w0.heap.size ≤ b1 ∧ (D (k + 2) → E2 W T b1 u1 u2) ∧ (¬ D (k + 2) → E2 W T b1 0 0)) ∧ (D (k + 1) → w0.heap.size ≤ b2 ∧ (D (k + 3) → E2 W T b2 u3 u4) ∧ (¬ D (k + 3) → E2 W T b2 0 0)) ∧ (D k → D (k + 1) → b1 ≠ b2)) ?_ ?_ ?_
 ·exact ⟨since_drew hs0, 0, 0, ⟨rfl, rfl, fun j _ _ hj => hj.elim, fun _ _ => rfl⟩, fun h => h.elim, fun h => h.elim, fun h => h.elim⟩
 ·rintro D a' W i o ⟨hW, b1, b2, hfr, hB1, hB2, hne⟩ ho hDi hdep hcl
  have hin : i < k + 4 := by have := (Array.getElem?_eq_some_iff.1 ho).1; omega
  have look : ∀ t ∈ o.looksAt ops, ∀ j oj, ops[j]? = some oj → oj.dst = some t → D j ∧ j < i := fun t ht j oj hoj hd => by
   have hjn : j < k + 4 := by have := (Array.getElem?_eq_some_iff.1 hoj).1; omega
   have := hok.looks i o hin ho t ht j oj hjn hoj hd
   exact ⟨hdep j this, hok.back i o ho j this⟩
  have dist : ∀ j oj d, D j → ops[j]? = some oj → o.dst = some d → oj.dst ≠ some d := fun j oj d hj hoj hd hd2 => by
   have hjn : j < k + 4 := by have := (Array.getElem?_eq_some_iff.1 hoj).1; omega
   have := hok.dsts i o hin ho j oj hjn hoj d hd hd2
   subst this
   exact hDi hj
  rcases Nat.lt_or_ge i k with hik | hik
  ·obtain ⟨⟨hw, hrun⟩, -⟩ := hst' i o (hget i o hik ho)
   have hag : ∀ t ∈ o.looksAt ops, a'.tmps[t]? = (F i).tmps[t]? := fun t ht => hfr.agree (hF b1 b2 i (by omega)) t (fun j oj hj hoj hd => look t ht j oj hoj hd)
   have he : execOp a'.eval o = execOp (F i).eval o := execOp_congr o (fun cs b => hok.nosel i o cs b ho) (fun x hx => by
    cases x with
    | tmp t =>
     have := hag t (List.mem_append_left _ (List.mem_filterMap.2 ⟨.tmp t, by simpa using hx, rfl⟩))
     simp [Act.eval, this]
    | _ => rfl)
   have hw' : Region.wanted o (yielded ops a'.tmps) = true := by
    rw [← hw]
    unfold Region.wanted
    cases hg : o.guard with
    | none => rfl
    | some gw =>
     obtain ⟨g, want⟩ := gw
     have : yielded ops a'.tmps g = yielded ops (F i).tmps g := by
      unfold yielded
      cases ht : (ops[g]?).bind (·.dst) with
      | none => rfl
      | some t =>
       have := hag t (by simp [Oper.looksAt, hg, ht])
       simp [this]
     simp only [this]
   rw [if_pos hw']
   unfold Oper.wp
   rw [he, hrun W hW]
   refine ⟨hW, b1, b2, ?_, fun h => ?_, fun h => ?_, fun h h' => hne (h.elim (fun h => h) fun e => by omega) (h'.elim (fun h => h) fun e => by omega)⟩
   ·have := hfr.put (i := i) ho dist
    rwa [show V b1 b2 i = vals i by show (if i = k then _ else if i = k + 1 then _ else vals i) = _; rw [if_neg (by omega), if_neg (by omega)]] at this
   ·obtain ⟨q1, q2, q3⟩ := hB1 (h.elim (fun h => h) fun e => by omega)
    exact ⟨q1, fun h => q2 (h.elim (fun h => h) fun e => by omega), fun h => q3 fun hh => h (.inl hh)⟩
   ·obtain ⟨q1, q2, q3⟩ := hB2 (h.elim (fun h => h) fun e => by omega)
    exact ⟨q1, fun h => q2 (h.elim (fun h => h) fun e => by omega), fun h => q3 fun hh => h (.inl hh)⟩
  ·obtain rfl | rfl | rfl | rfl : i = k ∨ i = k + 1 ∨ i = k + 2 ∨ i = k + 3 := by omega
   ·rw [s1] at ho; cases ho
    rw [if_pos (show Region.wanted (⟨some d1, .alloc T, ty1, ps1, af1, none⟩ : Oper) (yielded ops a'.tmps) = true from rfl)]
    unfold Oper.wp
    rw [hz]
    have hn2 : ¬ D (i + 2) := fun h => hDi (hcl _ _ h s3 _ (hok.looks (i + 2) _ (by omega) s3 d1 (by simp [Oper.looksAt, Op.operands]) i _ (by omega) s1 rfl))
    refine ⟨since_alloc _ hW, W.heap.size, b2, ?_, fun _ => ⟨hW.size, fun h => (hn2 (h.elim (fun h => h) fun e => by omega)).elim, fun _ => E2.new W T 0 0⟩, fun h => ?_, fun _ h e => ?_⟩
    ·have := (hfr.vals (v' := V W.heap.size b2) (fun j hj => by show (if j = i then _ else if j = i + 1 then _ else vals j) = if j = i then _ else if j = i + 1 then _ else vals j; rw [if_neg (c := j = i) (fun e => hDi (by rw [← e]; exact hj)), if_neg (c := j = i) (fun e => hDi (by rw [← e]; exact hj))])).put (i := i) s1 dist
     rwa [show V W.heap.size b2 i = ptr W.heap.size by show (if i = i then _ else _) = _; rw [if_pos rfl]] at this
    ·obtain ⟨q1, q2, q3⟩ := hB2 (h.elim (fun h => h) fun e => by omega)
     exact ⟨q1, fun h => (q2 (h.elim (fun h => h) fun e => by omega)).alloc _, fun h => (q3 fun hh => h (.inl hh)).alloc _⟩
    ·obtain ⟨q1, q2, q3⟩ := hB2 (h.elim (fun h => h) fun e => by omega)
     by_cases h3 : D (i + 3)
     ·have := (q2 h3).lt; omega
     ·have := (q3 h3).lt; omega
   ·rw [s2] at ho; cases ho
    rw [if_pos (show Region.wanted (⟨some d2, .alloc T, ty2, ps2, af2, none⟩ : Oper) (yielded ops a'.tmps) = true from rfl)]
    unfold Oper.wp
    rw [hz]
    have hn3 : ¬ D (k + 3) := fun h => hDi (hcl _ _ h s4 _ (hok.looks (k + 3) _ (by omega) s4 d2 (by simp [Oper.looksAt, Op.operands]) (k + 1) _ (by omega) s2 rfl))
    refine ⟨since_alloc _ hW, b1, W.heap.size, ?_, fun h => ?_, fun _ => ⟨hW.size, fun h => (hn3 (h.elim (fun h => h) fun e => by omega)).elim, fun _ => E2.new W T 0 0⟩, fun h _ e => ?_⟩
    ·have := (hfr.vals (v' := V b1 W.heap.size) (fun j hj => by show (if j = k then _ else if j = k + 1 then _ else vals j) = if j = k then _ else if j = k + 1 then _ else vals j; rw [if_neg (c := j = k + 1) (fun e => hDi (by rw [← e]; exact hj)), if_neg (c := j = k + 1) (fun e => hDi (by rw [← e]; exact hj))])).put (i := k + 1) s2 dist
     rwa [show V b1 W.heap.size (k + 1) = ptr W.heap.size by show (if k + 1 = k then _ else if k + 1 = k + 1 then _ else _) = _; rw [if_neg (by omega), if_pos rfl]] at this
    ·obtain ⟨q1, q2, q3⟩ := hB1 (h.elim (fun h => h) fun e => by omega)
     exact ⟨q1, fun h => (q2 (h.elim (fun h => h) fun e => by omega)).alloc _, fun h => (q3 fun hh => h (.inl hh)).alloc _⟩
    ·obtain ⟨q1, q2, q3⟩ := hB1 (h.elim (fun h => h) fun e => by omega)
     by_cases h3 : D (k + 2)
     ·have := (q2 h3).lt; omega
     ·have := (q3 h3).lt; omega
   ·rw [s3] at ho; cases ho
    rw [if_pos (show Region.wanted (⟨none, .store T (.tmp d1) (.tmp x1), ty3, ps3, af3, none⟩ : Oper) (yielded ops a'.tmps) = true from rfl)]
    have hDk : D k := hdep k (hok.looks (k + 2) _ (by omega) s3 d1 (by simp [Oper.looksAt, Op.operands]) k _ (by omega) s1 rfl)
    obtain ⟨q1, q2, q3⟩ := hB1 hDk
    have q := q3 hDi
    obtain ⟨c1, c2, c3, c4⟩ := q.cells
    have e1 : a'.eval (.tmp d1) = ptr b1 := by
     have := hfr.on k _ d1 hDk s1 rfl hd1
     simp only [Act.eval, Array.getD_eq_getD_getElem?, this, Option.getD_some]
     show (if k = k then ptr b1 else _) = _
     rw [if_pos rfl]
    have e2 : a'.eval (.tmp x1) = .agg #[.int .i64 u1, .int .i64 u2] := by
     rw [← hx1]
     have := hfr.agree (hF b1 b2 k (Nat.le_refl _)) x1 (fun j oj hj hoj hd => ⟨(look x1 (by simp [Oper.looksAt, Op.operands]) j oj hoj hd).1, by
      have hj' := (look x1 (by simp [Oper.looksAt, Op.operands]) j oj hoj hd).2
      have hj3 : j < k + 2 := hj'
      rcases Nat.lt_or_ge j k with hh | hh
      ·exact hh
      ·exfalso
       obtain rfl | rfl : j = k ∨ j = k + 1 := by omega
       ·rw [s1] at hoj; cases hoj
        exact hxd.1 (Option.some.inj hd).symm
       ·rw [s2] at hoj; cases hoj
        exact hxd.2.1 (Option.some.inj hd).symm⟩)
     simp [Act.eval, this]
    unfold Oper.wp
    rw [hst a'.eval _ _ _ W _ _ b1 _ _ u1 u2 e1 e2 c1 c2 c3 c4]
    refine ⟨Below.setCell (Below.setCell hW q1 _) q1 _, b1, b2, ?_, fun _ => ⟨q1, fun _ => q.set u1 u2, fun h => (h (.inr rfl)).elim⟩, fun h => ?_, fun _ h => hne hDk (h.elim (fun h => h) fun e => by omega)⟩
    ·exact hfr.put (i := k + 2) s3 dist
    ·obtain ⟨p1, p2, p3⟩ := hB2 (h.elim (fun h => h) fun e => by omega)
     have hb := hne hDk (h.elim (fun h => h) fun e => by omega)
     exact ⟨p1, fun h => ((p2 (h.elim (fun h => h) fun e => by omega)).other (Ne.symm hb) _ _).other (Ne.symm hb) _ _, fun h => ((p3 fun hh => h (.inl hh)).other (Ne.symm hb) _ _).other (Ne.symm hb) _ _⟩
   ·rw [s4] at ho; cases ho
    rw [if_pos (show Region.wanted (⟨none, .store T (.tmp d2) (.tmp x2), ty4, ps4, af4, none⟩ : Oper) (yielded ops a'.tmps) = true from rfl)]
    have hDk : D (k + 1) := hdep (k + 1) (hok.looks (k + 3) _ (by omega) s4 d2 (by simp [Oper.looksAt, Op.operands]) (k + 1) _ (by omega) s2 rfl)
    obtain ⟨q1, q2, q3⟩ := hB2 hDk
    have q := q3 hDi
    obtain ⟨c1, c2, c3, c4⟩ := q.cells
    have e1 : a'.eval (.tmp d2) = ptr b2 := by
     have := hfr.on (k + 1) _ d2 hDk s2 rfl hd2
     simp only [Act.eval, Array.getD_eq_getD_getElem?, this, Option.getD_some]
     show (if k + 1 = k then _ else if k + 1 = k + 1 then ptr b2 else _) = _
     rw [if_neg (by omega), if_pos rfl]
    have e2 : a'.eval (.tmp x2) = .agg #[.int .i64 u3, .int .i64 u4] := by
     rw [← hx2]
     have := hfr.agree (hF b1 b2 k (Nat.le_refl _)) x2 (fun j oj hj hoj hd => ⟨(look x2 (by simp [Oper.looksAt, Op.operands]) j oj hoj hd).1, by
      have hj' := (look x2 (by simp [Oper.looksAt, Op.operands]) j oj hoj hd).2
      have hj3 : j < k + 3 := hj'
      rcases Nat.lt_or_ge j k with hh | hh
      ·exact hh
      ·exfalso
       obtain rfl | rfl | rfl : j = k ∨ j = k + 1 ∨ j = k + 2 := by omega
       ·rw [s1] at hoj; cases hoj
        exact hxd.2.2.1 (Option.some.inj hd).symm
       ·rw [s2] at hoj; cases hoj
        exact hxd.2.2.2 (Option.some.inj hd).symm
       ·rw [s3] at hoj; cases hoj; cases hd⟩)
     simp [Act.eval, this]
    unfold Oper.wp
    rw [hst a'.eval _ _ _ W _ _ b2 _ _ u3 u4 e1 e2 c1 c2 c3 c4]
    refine ⟨Below.setCell (Below.setCell hW q1 _) q1 _, b1, b2, ?_, fun h => ?_, fun _ => ⟨q1, fun _ => q.set u3 u4, fun h => (h (.inr rfl)).elim⟩, fun h _ => hne (h.elim (fun h => h) fun e => by omega) hDk⟩
    ·exact hfr.put (i := k + 3) s4 dist
    ·obtain ⟨p1, p2, p3⟩ := hB1 (h.elim (fun h => h) fun e => by omega)
     have hb := hne (h.elim (fun h => h) fun e => by omega) hDk
     exact ⟨p1, fun h => ((p2 (h.elim (fun h => h) fun e => by omega)).other hb _ _).other hb _ _, fun h => ((p3 fun hh => h (.inl hh)).other hb _ _).other hb _ _⟩
 ·rintro D a' W ⟨hW, b1, b2, hfr, hB1, hB2, hne⟩ hall
  have dst1 : ∀ i o, i < k + 4 → ops[i]? = some o → ∀ j oj d, j < i → ops[j]? = some oj → o.dst = some d → oj.dst ≠ some d := fun i o hi ho j oj d hj hoj hd hd2 => by
   have := hok.dsts i o hi ho j oj (by omega) hoj d hd hd2
   omega
  have f1 := ((hF b1 b2 k (Nat.le_refl _)).put (i := k) s1 (fun j oj d hj hoj => dst1 k _ (by omega) s1 j oj d hj hoj)).same (E := fun j => j < k + 1) (fun j => by show (j < k ∨ j = k) ↔ j < k + 1; omega)
  have f2 := (f1.put (i := k + 1) s2 (fun j oj d hj hoj => dst1 (k + 1) _ (by omega) s2 j oj d hj hoj)).same (E := fun j => j < k + 2) (fun j => by show (j < k + 1 ∨ j = k + 1) ↔ j < k + 2; omega)
  have f3 := (f2.put (i := k + 2) s3 (fun j oj d hj hoj => dst1 (k + 2) _ (by omega) s3 j oj d hj hoj)).same (E := fun j => j < k + 3) (fun j => by show (j < k + 2 ∨ j = k + 2) ↔ j < k + 3; omega)
  have f4 := (f3.put (i := k + 3) s4 (fun j oj d hj hoj => dst1 (k + 3) _ (by omega) s4 j oj d hj hoj)).same (E := fun j => j < k + 4) (fun j => by show (j < k + 3 ∨ j = k + 3) ↔ j < k + 4; omega)
  have e := hfr.ext f4 (fun j hj => ⟨fun _ => by omega, fun _ => hall j hj⟩)
  rw [e]
  have v1 : V b1 b2 k = ptr b1 := by show (if k = k then _ else _) = _; rw [if_pos rfl]
  have v2 : V b1 b2 (k + 1) = ptr b2 := by show (if k + 1 = k then _ else if k + 1 = k + 1 then _ else _) = _; rw [if_neg (by omega), if_pos rfl]
  rw [v1, v2]
  exact hfin b1 b2 W hW (hB1 (hall k (by omega))).1 (hB2 (hall (k + 1) (by omega))).1 ((hB1 (hall k (by omega))).2.1 (hall (k + 2) (by omega))) ((hB2 (hall (k + 1) (by omega))).2.1 (hall (k + 3) (by omega)))
end
end Go.Proofs.YtgmdpppljkmabaaGreat
namespace Go.Proofs.YtgmdpppljkmabaaGreat
open Go.RowKit
set_option maxHeartbeats 4000000 in
theorem atMay_any (ve vi vn : Value) (n : Net) (v i x j : Int) (w : World) (h : NetIn w ve vi vn n) (hp : hasPortB n.ends v i = true) (hq : hasPortB n.ends x j = true) :
  Calls Tryz.prog 64 #[.agg #[ve, vi, vn], .int .i64 v, .int .i64 i, .int .i64 x, .int .i64 j] w fun e w' => e = .returned (.bool (mayB n.ends (v, i) (x, j))) ∧ Below w.heap.size w w' := by
 obtain ⟨w0, hw0⟩ : ∃ w0, w0 = (((w).alloc (.cells #[ve, vi, vn] 27)).alloc (.cells #[.int .i64 v, .int .i64 i] 83)).alloc (.cells #[.int .i64 x, .int .i64 j] 83) := ⟨_, rfl⟩
 have hb0 : Below w.heap.size w w0 := by rw [hw0]; exact ((((Below.refl _ _).alloc (by simp <;> omega) _).alloc (by simp <;> omega) _).alloc (by simp <;> omega) _)
 have H := Lib.hid (h.keep hb0)
 obtain ⟨h1, h2, h3⟩ := h.keep hb0
 obtain ⟨A, c, rfl, hlc, hm, hA⟩ := h1
 obtain ⟨A2, c2, rfl, _, hm2, _⟩ := h2
 obtain ⟨A3, c3, rfl, _, hm3, _⟩ := h3
 unfold maxLen at hm hm2 hm3
 have p00 : ∀ W, Since w0 W → W.cell? ⟨w.heap.size, 0, none⟩ = some (.slice A n.ends.length c) := have_cell (by rw [hw0]; simp [go_sem])
 have p01 : ∀ W, Since w0 W → W.cell? ⟨w.heap.size, 1, none⟩ = some (.slice A2 n.ids.length c2) := have_cell (by rw [hw0]; simp [go_sem])
 have p02 : ∀ W, Since w0 W → W.cell? ⟨w.heap.size, 2, none⟩ = some (.slice A3 n.inputs.length c3) := have_cell (by rw [hw0]; simp [go_sem])
 have p10 : ∀ W, Since w0 W → W.cell? ⟨w.heap.size + 1, 0, none⟩ = some (.int .i64 v) := have_cell (by rw [hw0]; simp [go_sem])
 have p11 : ∀ W, Since w0 W → W.cell? ⟨w.heap.size + 1, 1, none⟩ = some (.int .i64 i) := have_cell (by rw [hw0]; simp [go_sem])
 have p20 : ∀ W, Since w0 W → W.cell? ⟨w.heap.size + 1 + 1, 0, none⟩ = some (.int .i64 x) := have_cell (by rw [hw0]; simp [go_sem])
 have p21 : ∀ W, Since w0 W → W.cell? ⟨w.heap.size + 1 + 1, 1, none⟩ = some (.int .i64 j) := have_cell (by rw [hw0]; simp [go_sem])
 have Hb0 := Lib.hid hb0
 have Hw0 := Lib.hid hw0
 have HA := Lib.hid hA
 clear hA h
 clear hb0 hw0
 obtain ⟨k1, j1, b, off, c', b1, off1, z1, es1, y1, y2, rfl, rfl, hA, hk1, -, hj1, -, hat1, hz1, hz1', hc1, hc2, hc3⟩ := port_at H.out.es hp
 cases hA
 obtain ⟨k2, j2, b', off', c', b2, off2, z2, es2, y3, y4, rfl, rfl, hA, hk2, -, hj2, -, hat2, hz2, hz2', hc4, hc5, hc6⟩ := port_at H.out.es hq
 cases hA
 have hr := Lib.hid (show mayB n.ends ((k1 : Int), (j1 : Int)) ((k2 : Int), (j2 : Int)) = (!eqE ((k1 : Int), (j1 : Int)) ((k2 : Int), (j2 : Int)) && !eqE (y1, y2) ((k2 : Int), (j2 : Int)) && !eqE (y1, y2) ((k1 : Int), (j1 : Int)) && !eqE (y3, y4) ((k2 : Int), (j2 : Int))) by simp only [mayB, hat1, hat2])
 have r1 := have_cell hc1
 have r2 := have_cell hc2
 have r3 := have_cell hc3
 have r4 := have_cell hc4
 have r5 := have_cell hc5
 have r6 := have_cell hc6
 clear hc1 hc2 hc3 hc4 hc5 hc6 hat1 hat2 hp hq
 go_enter Tryz.func64, Tryz.ntmps64
 go_upto_region 2 with (fail)
 rw [← Hw0.out]
 refine wp_region_two (w0 := w0) 16 13 14 28 36 83 y1 y2 y3 y4 (by kernel_rfl) (by kernel_rfl) rfl (since_refl _) ⟨_, _, _, rfl⟩ ⟨_, _, _, rfl⟩ ⟨_, _, _, rfl⟩ ⟨_, _, _, rfl⟩ (by decide) (by simp) (by simp) end_zero end_store ?_
 simp only [List.take_succ_cons, List.take_zero]
 refine pflow_val (v := ?_) rfl ?_ ?_; rotate_left; (intro W hW; go_simp; with_reducible rfl)
 simp only [zA]
 refine pflow_val (v := ?_) rfl ?_ ?_; rotate_left; (intro W hW; go_simp; with_reducible rfl)
 simp only [zA]
 refine pflow_val (v := ?_) rfl ?_ ?_; rotate_left; (intro W hW; go_simp; with_reducible rfl)
 simp only [zA]
 refine pflow_val (v := ?_) rfl ?_ ?_; rotate_left; (intro W hW; go_simp; with_reducible rfl)
 simp only [zA]
 refine pflow_val (v := ?_) rfl ?_ ?_; rotate_left; (intro W hW; go_simp; with_reducible rfl)
 simp only [zA]
 refine pflow_val (v := ?_) rfl ?_ ?_; rotate_left; (intro W hW; go_simp; with_reducible rfl)
 simp only [zA]
 refine pflow_val (v := ?_) rfl ?_ ?_; rotate_left; (intro W hW; go_simp; with_reducible rfl)
 simp only [zA]
 refine pflow_val (v := ?_) rfl ?_ ?_; rotate_left; (intro W hW; go_simp; with_reducible rfl)
 simp only [zA]
 refine pflow_val (v := ?_) rfl ?_ ?_; rotate_left; (intro W hW; go_simp; with_reducible rfl)
 simp only [zA]
 refine pflow_val (v := ?_) rfl ?_ ?_; rotate_left; (intro W hW; go_simp; with_reducible rfl)
 simp only [zA]
 refine pflow_val (v := ?_) rfl ?_ ?_; rotate_left; (intro W hW; go_simp; with_reducible rfl)
 simp only [zA]
 refine pflow_val (v := ?_) rfl ?_ ?_; rotate_left; (intro W hW; go_simp; with_reducible rfl)
 simp only [zA]
 refine pflow_val (v := ?_) rfl ?_ ?_; rotate_left; (intro W hW; go_simp; with_reducible rfl)
 simp only [zA]
 refine pflow_val (v := ?_) rfl ?_ ?_; rotate_left; (intro W hW; go_simp; with_reducible rfl)
 simp only [zA]
 refine pflow_val (v := ?_) rfl ?_ ?_; rotate_left; (intro W hW; go_simp; with_reducible rfl)
 simp only [zA]
 refine pflow_val (v := ?_) rfl ?_ ?_; rotate_left; (intro W hW; go_simp; with_reducible rfl)
 simp only [zA]
 refine ⟨rfl, rfl, ?_⟩
 intro b1' b2' W1 hW1 hE1 hE2
 simp only [zA]
 have q0 := lift_cell p10 hW1
 have q1 := lift_cell p11 hW1
 have q2 := lift_cell p20 hW1
 have q3 := lift_cell p21 hW1
 have s0 := have_cell hE1.cells.1
 have s1 := have_cell hE1.cells.2.1
 have s2 := have_cell hE2.cells.1
 have s3 := have_cell hE2.cells.2.1
 have HW1 := Lib.hid hW1
 clear hW1 hE1 hE2 p00 p01 p02 p10 p11 p20 p21 r1 r2 r3 r4 r5 r6
 unfold ptr
 go_upto_region 3 with (fail)
 refine wp_region_flow0 19 (Since W1) (since_refl _) ?_
 simp only [List.take_succ_cons, List.take_zero, List.drop_succ_cons, List.drop_zero]
 refine flow_val (v := ?_) rfl ?_ ?_; rotate_left; (intro W hW; go_simp; with_reducible rfl)
 simp only [zA]
 refine flow_val (v := ?_) rfl ?_ ?_; rotate_left; (intro W hW; go_simp; with_reducible rfl)
 simp only [zA]
 refine flow_val (v := ?_) rfl ?_ ?_; rotate_left; (intro W hW; go_simp; with_reducible rfl)
 simp only [zA]
 refine flow_val (v := ?_) rfl ?_ ?_; rotate_left; (intro W hW; go_simp; with_reducible rfl)
 simp only [zA]
 refine flow_gval (v := ?_) rfl rfl ?_ ?_; rotate_left; (intro hb; intro W hW; go_simp; with_reducible rfl)
 simp only [zA]
 refine flow_gval (v := ?_) rfl rfl ?_ ?_; rotate_left; (intro hb; intro W hW; go_simp; with_reducible rfl)
 simp only [zA]
 refine flow_gval (v := ?_) rfl rfl ?_ ?_; rotate_left; (intro hb; intro W hW; go_simp; with_reducible rfl)
 simp only [zA]
 first | refine flow_and rfl rfl ?_ | (refine flow_val (v := ?_) rfl ?_ ?_; rotate_left; (intro W hW; go_simp; with_reducible rfl))
 simp only [zA]
 refine flow_val (v := ?_) rfl ?_ ?_; rotate_left; (intro W hW; go_simp; with_reducible rfl)
 simp only [zA]
 refine flow_gval (v := ?_) rfl rfl ?_ ?_; rotate_left; (intro hb; intro W hW; go_simp; with_reducible rfl)
 simp only [zA]
 refine flow_gval (v := ?_) rfl rfl ?_ ?_; rotate_left; (intro hb; intro W hW; go_simp; with_reducible rfl)
 simp only [zA]
 refine flow_gval (v := ?_) rfl rfl ?_ ?_; rotate_left; (intro hb; intro W hW; go_simp; with_reducible rfl)
 simp only [zA]
 first | refine flow_and rfl rfl ?_ | (refine flow_val (v := ?_) rfl ?_ ?_; rotate_left; (intro W hW; go_simp; with_reducible rfl))
 simp only [zA]
 refine flow_val (v := ?_) rfl ?_ ?_; rotate_left; (intro W hW; go_simp; with_reducible rfl)
 simp only [zA]
 refine flow_gval (v := ?_) rfl rfl ?_ ?_; rotate_left; (intro hb; intro W hW; go_simp; with_reducible rfl)
 simp only [zA]
 refine flow_gval (v := ?_) rfl rfl ?_ ?_; rotate_left; (intro hb; intro W hW; go_simp; with_reducible rfl)
 simp only [zA]
 refine flow_gval (v := ?_) rfl rfl ?_ ?_; rotate_left; (intro hb; intro W hW; go_simp; with_reducible rfl)
 simp only [zA]
 first | refine flow_and rfl rfl ?_ | (refine flow_val (v := ?_) rfl ?_ ?_; rotate_left; (intro W hW; go_simp; with_reducible rfl))
 simp only [zA]
 refine flow_val (v := ?_) rfl ?_ ?_; rotate_left; (intro W hW; go_simp; with_reducible rfl)
 simp only [zA]
 intro W2 hW2
 have HW := Lib.hid hW2
 clear hW2
 go_wp2
 go_ret
 exact ⟨ret_bool hr.out.symm, Since.after Hb0.out (HW1.out.after HW.out)⟩
end Go.Proofs.YtgmdpppljkmabaaGreat
namespace Go.Proofs.YtgmdpppljkmabaaGreat
open Go.RowKit
set_option maxHeartbeats 4000000 in
theorem canCross_any (ve vi vn : Value) (n : Net) (v i x j : Int) (w : World) (h : NetIn w ve vi vn n) (hp : hasPortB n.ends v i = true) (hq : hasPortB n.ends x j = true) :
  Calls Tryz.prog 58 #[.agg #[ve, vi, vn], .agg #[.int .i64 v, .int .i64 i], .agg #[.int .i64 x, .int .i64 j]] w fun e w' => e = .returned (.bool (mayB n.ends (v, i) (x, j))) ∧ Below w.heap.size w w' := by
 obtain ⟨w0, hw0⟩ : ∃ w0, w0 = (((w).alloc (.cells #[ve, vi, vn] 27)).alloc (.cells #[.int .i64 v, .int .i64 i] 83)).alloc (.cells #[.int .i64 x, .int .i64 j] 83) := ⟨_, rfl⟩
 have hb0 : Below w.heap.size w w0 := by rw [hw0]; exact ((((Below.refl _ _).alloc (by simp <;> omega) _).alloc (by simp <;> omega) _).alloc (by simp <;> omega) _)
 have H := Lib.hid (h.keep hb0)
 obtain ⟨h1, h2, h3⟩ := h.keep hb0
 obtain ⟨A, c, rfl, hlc, hm, hA⟩ := h1
 obtain ⟨A2, c2, rfl, _, hm2, _⟩ := h2
 obtain ⟨A3, c3, rfl, _, hm3, _⟩ := h3
 unfold maxLen at hm hm2 hm3
 have p00 : ∀ W, Since w0 W → W.cell? ⟨w.heap.size, 0, none⟩ = some (.slice A n.ends.length c) := have_cell (by rw [hw0]; simp [go_sem])
 have p01 : ∀ W, Since w0 W → W.cell? ⟨w.heap.size, 1, none⟩ = some (.slice A2 n.ids.length c2) := have_cell (by rw [hw0]; simp [go_sem])
 have p02 : ∀ W, Since w0 W → W.cell? ⟨w.heap.size, 2, none⟩ = some (.slice A3 n.inputs.length c3) := have_cell (by rw [hw0]; simp [go_sem])
 have p10 : ∀ W, Since w0 W → W.cell? ⟨w.heap.size + 1, 0, none⟩ = some (.int .i64 v) := have_cell (by rw [hw0]; simp [go_sem])
 have p11 : ∀ W, Since w0 W → W.cell? ⟨w.heap.size + 1, 1, none⟩ = some (.int .i64 i) := have_cell (by rw [hw0]; simp [go_sem])
 have p20 : ∀ W, Since w0 W → W.cell? ⟨w.heap.size + 1 + 1, 0, none⟩ = some (.int .i64 x) := have_cell (by rw [hw0]; simp [go_sem])
 have p21 : ∀ W, Since w0 W → W.cell? ⟨w.heap.size + 1 + 1, 1, none⟩ = some (.int .i64 j) := have_cell (by rw [hw0]; simp [go_sem])
 have Hb0 := Lib.hid hb0
 have Hw0 := Lib.hid hw0
 have HA := Lib.hid hA
 clear hA h
 clear hb0 hw0
 obtain ⟨k1, j1, b, off, c', b1, off1, z1, es1, y1, y2, rfl, rfl, hA, hk1, -, hj1, -, hat1, hz1, hz1', hc1, hc2, hc3⟩ := port_at H.out.es hp
 cases hA
 obtain ⟨k2, j2, b', off', c', b2, off2, z2, es2, y3, y4, rfl, rfl, hA, hk2, -, hj2, -, hat2, hz2, hz2', hc4, hc5, hc6⟩ := port_at H.out.es hq
 cases hA
 have hr := Lib.hid (show mayB n.ends ((k1 : Int), (j1 : Int)) ((k2 : Int), (j2 : Int)) = (!eqE ((k1 : Int), (j1 : Int)) ((k2 : Int), (j2 : Int)) && !eqE (y1, y2) ((k2 : Int), (j2 : Int)) && !eqE (y1, y2) ((k1 : Int), (j1 : Int)) && !eqE (y3, y4) ((k2 : Int), (j2 : Int))) by simp only [mayB, hat1, hat2])
 have r1 := have_cell hc1
 have r2 := have_cell hc2
 have r3 := have_cell hc3
 have r4 := have_cell hc4
 have r5 := have_cell hc5
 have r6 := have_cell hc6
 clear hc1 hc2 hc3 hc4 hc5 hc6 hat1 hat2 hp hq
 go_enter Tryz.func58, Tryz.ntmps58
 go_upto_region 1 with (fail)
 rw [← Hw0.out]
 refine wp_region_two (w0 := w0) 20 7 8 18 28 83 y1 y2 y3 y4 (by kernel_rfl) (by kernel_rfl) rfl (since_refl _) ⟨_, _, _, rfl⟩ ⟨_, _, _, rfl⟩ ⟨_, _, _, rfl⟩ ⟨_, _, _, rfl⟩ (by decide) (by simp) (by simp) end_zero end_store ?_
 simp only [List.take_succ_cons, List.take_zero]
 refine pflow_val (v := ?_) rfl ?_ ?_; rotate_left; (intro W hW; go_simp; with_reducible rfl)
 simp only [zA]
 refine pflow_val (v := ?_) rfl ?_ ?_; rotate_left; (intro W hW; go_simp; with_reducible rfl)
 simp only [zA]
 refine pflow_val (v := ?_) rfl ?_ ?_; rotate_left; (intro W hW; go_simp; with_reducible rfl)
 simp only [zA]
 refine pflow_val (v := ?_) rfl ?_ ?_; rotate_left; (intro W hW; go_simp; with_reducible rfl)
 simp only [zA]
 refine pflow_val (v := ?_) rfl ?_ ?_; rotate_left; (intro W hW; go_simp; with_reducible rfl)
 simp only [zA]
 refine pflow_val (v := ?_) rfl ?_ ?_; rotate_left; (intro W hW; go_simp; with_reducible rfl)
 simp only [zA]
 refine pflow_val (v := ?_) rfl ?_ ?_; rotate_left; (intro W hW; go_simp; with_reducible rfl)
 simp only [zA]
 refine pflow_val (v := ?_) rfl ?_ ?_; rotate_left; (intro W hW; go_simp; with_reducible rfl)
 simp only [zA]
 refine pflow_val (v := ?_) rfl ?_ ?_; rotate_left; (intro W hW; go_simp; with_reducible rfl)
 simp only [zA]
 refine pflow_val (v := ?_) rfl ?_ ?_; rotate_left; (intro W hW; go_simp; with_reducible rfl)
 simp only [zA]
 refine pflow_val (v := ?_) rfl ?_ ?_; rotate_left; (intro W hW; go_simp; with_reducible rfl)
 simp only [zA]
 refine pflow_val (v := ?_) rfl ?_ ?_; rotate_left; (intro W hW; go_simp; with_reducible rfl)
 simp only [zA]
 refine pflow_val (v := ?_) rfl ?_ ?_; rotate_left; (intro W hW; go_simp; with_reducible rfl)
 simp only [zA]
 refine pflow_val (v := ?_) rfl ?_ ?_; rotate_left; (intro W hW; go_simp; with_reducible rfl)
 simp only [zA]
 refine pflow_val (v := ?_) rfl ?_ ?_; rotate_left; (intro W hW; go_simp; with_reducible rfl)
 simp only [zA]
 refine pflow_val (v := ?_) rfl ?_ ?_; rotate_left; (intro W hW; go_simp; with_reducible rfl)
 simp only [zA]
 refine pflow_val (v := ?_) rfl ?_ ?_; rotate_left; (intro W hW; go_simp; with_reducible rfl)
 simp only [zA]
 refine pflow_val (v := ?_) rfl ?_ ?_; rotate_left; (intro W hW; go_simp; with_reducible rfl)
 simp only [zA]
 refine pflow_val (v := ?_) rfl ?_ ?_; rotate_left; (intro W hW; go_simp; with_reducible rfl)
 simp only [zA]
 refine pflow_val (v := ?_) rfl ?_ ?_; rotate_left; (intro W hW; go_simp; with_reducible rfl)
 simp only [zA]
 refine ⟨rfl, rfl, ?_⟩
 intro b1' b2' W1 hW1 hE1 hE2
 simp only [zA]
 have q0 := lift_cell p10 hW1
 have q1 := lift_cell p11 hW1
 have q2 := lift_cell p20 hW1
 have q3 := lift_cell p21 hW1
 have s0 := have_cell hE1.cells.1
 have s1 := have_cell hE1.cells.2.1
 have s2 := have_cell hE2.cells.1
 have s3 := have_cell hE2.cells.2.1
 have HW1 := Lib.hid hW1
 clear hW1 hE1 hE2 p00 p01 p02 p10 p11 p20 p21 r1 r2 r3 r4 r5 r6
 unfold ptr
 go_upto_region 2 with (fail)
 refine wp_region_flow0 19 (Since W1) (since_refl _) ?_
 simp only [List.take_succ_cons, List.take_zero, List.drop_succ_cons, List.drop_zero]
 refine flow_val (v := ?_) rfl ?_ ?_; rotate_left; (intro W hW; go_simp; with_reducible rfl)
 simp only [zA]
 refine flow_val (v := ?_) rfl ?_ ?_; rotate_left; (intro W hW; go_simp; with_reducible rfl)
 simp only [zA]
 refine flow_val (v := ?_) rfl ?_ ?_; rotate_left; (intro W hW; go_simp; with_reducible rfl)
 simp only [zA]
 refine flow_val (v := ?_) rfl ?_ ?_; rotate_left; (intro W hW; go_simp; with_reducible rfl)
 simp only [zA]
 refine flow_gval (v := ?_) rfl rfl ?_ ?_; rotate_left; (intro hb; intro W hW; go_simp; with_reducible rfl)
 simp only [zA]
 refine flow_gval (v := ?_) rfl rfl ?_ ?_; rotate_left; (intro hb; intro W hW; go_simp; with_reducible rfl)
 simp only [zA]
 refine flow_gval (v := ?_) rfl rfl ?_ ?_; rotate_left; (intro hb; intro W hW; go_simp; with_reducible rfl)
 simp only [zA]
 first | refine flow_and rfl rfl ?_ | (refine flow_val (v := ?_) rfl ?_ ?_; rotate_left; (intro W hW; go_simp; with_reducible rfl))
 simp only [zA]
 refine flow_val (v := ?_) rfl ?_ ?_; rotate_left; (intro W hW; go_simp; with_reducible rfl)
 simp only [zA]
 refine flow_gval (v := ?_) rfl rfl ?_ ?_; rotate_left; (intro hb; intro W hW; go_simp; with_reducible rfl)
 simp only [zA]
 refine flow_gval (v := ?_) rfl rfl ?_ ?_; rotate_left; (intro hb; intro W hW; go_simp; with_reducible rfl)
 simp only [zA]
 refine flow_gval (v := ?_) rfl rfl ?_ ?_; rotate_left; (intro hb; intro W hW; go_simp; with_reducible rfl)
 simp only [zA]
 first | refine flow_and rfl rfl ?_ | (refine flow_val (v := ?_) rfl ?_ ?_; rotate_left; (intro W hW; go_simp; with_reducible rfl))
 simp only [zA]
 refine flow_val (v := ?_) rfl ?_ ?_; rotate_left; (intro W hW; go_simp; with_reducible rfl)
 simp only [zA]
 refine flow_gval (v := ?_) rfl rfl ?_ ?_; rotate_left; (intro hb; intro W hW; go_simp; with_reducible rfl)
 simp only [zA]
 refine flow_gval (v := ?_) rfl rfl ?_ ?_; rotate_left; (intro hb; intro W hW; go_simp; with_reducible rfl)
 simp only [zA]
 refine flow_gval (v := ?_) rfl rfl ?_ ?_; rotate_left; (intro hb; intro W hW; go_simp; with_reducible rfl)
 simp only [zA]
 first | refine flow_and rfl rfl ?_ | (refine flow_val (v := ?_) rfl ?_ ?_; rotate_left; (intro W hW; go_simp; with_reducible rfl))
 simp only [zA]
 refine flow_val (v := ?_) rfl ?_ ?_; rotate_left; (intro W hW; go_simp; with_reducible rfl)
 simp only [zA]
 intro W2 hW2
 have HW := Lib.hid hW2
 clear hW2
 go_wp2
 go_ret
 exact ⟨ret_bool hr.out.symm, Since.after Hb0.out (HW1.out.after HW.out)⟩
end Go.Proofs.YtgmdpppljkmabaaGreat
namespace Go.Proofs.YtgmdpppljkmabaaGreat
open Go.RowKit
/-! a network with two edges crossed -/
def putEnd (ess : List (List (Int × Int))) (p q : Int × Int) : List (List (Int × Int)) := ess.set p.1.toNat ((ess.getD p.1.toNat []).set p.2.toNat q)
theorem putEnd_len (ess : List (List (Int × Int))) (p q : Int × Int) : (putEnd ess p q).length = ess.length := by simp [putEnd]
theorem putEnd_row (ess : List (List (Int × Int))) (p q : Int × Int) (k : Nat) : ((putEnd ess p q).getD k []).length = (ess.getD k []).length := by
 unfold putEnd
 by_cases h : p.1.toNat = k
 ·subst h
  by_cases hl : p.1.toNat < ess.length
  ·simp [List.getD_eq_getElem?_getD, hl]
  ·simp [List.getD_eq_getElem?_getD, hl]
 ·simp [List.getD_eq_getElem?_getD, List.getElem?_set_ne h]
theorem putEnd_port (ess : List (List (Int × Int))) (p q : Int × Int) (v i : Int) : hasPortB (putEnd ess p q) v i = hasPortB ess v i := by
 unfold hasPortB
 rw [putEnd_len, putEnd_row]
def crossE (n : Net) (v i x j : Int) : List (List (Int × Int)) :=
 putEnd (putEnd (putEnd (putEnd n.ends (v, i) (endAt n.ends x j)) (endAt n.ends x j) (v, i)) (x, j) (endAt n.ends v i)) (endAt n.ends v i) (x, j)
structure Cr (wa W : World) (ob b1 b2 g c m : Nat) (vi vn : Value) (N : Net) (S : List Nat) (a e : Int × Int) : Prop where
 own : OwnNet W wa.heap.size (.slice (some ⟨g, 0, none⟩) m c) vi vn N S
 len : N.ends.length = m
 box : BoxN W ob (.slice (some ⟨g, 0, none⟩) m c) vi vn
 e1 : E2 W 83 b1 a.1 a.2
 e2 : E2 W 83 b2 e.1 e.2
 nb : ob ∉ S ∧ b1 ∉ S ∧ b2 ∉ S
 since : Since wa W
theorem Cr.keep {wa W W' : World} {ob b1 b2 g c m : Nat} {vi vn : Value} {N : Net} {S : List Nat} {a e : Int × Int} (h : Cr wa W ob b1 b2 g c m vi vn N S a e) (hs : Since W W') : Cr wa W' ob b1 b2 g c m vi vn N S a e :=
 ⟨h.own.keep hs.below, h.len, h.box.since hs, (hs.block _ h.e1.lt).trans h.e1, (hs.block _ h.e2.lt).trans h.e2, h.nb, h.since.after hs⟩
theorem Cr.drew {wa W : World} {ob b1 b2 g c m : Nat} {vi vn : Value} {N : Net} {S : List Nat} {a e : Int × Int} (h : Cr wa W ob b1 b2 g c m vi vn N S a e) : Cr wa W.drew ob b1 b2 g c m vi vn N S a e := h.keep (since_drew (since_refl _))
theorem Cr.port {wa W : World} {ob b1 b2 g c m : Nat} {vi vn : Value} {N : Net} {S : List Nat} {a e : Int × Int} (h : Cr wa W ob b1 b2 g c m vi vn N S a e) {v i : Int} (hp : hasPortB N.ends v i = true) :
  ∃ (k j gr cr l : Nat), v = (k : Int) ∧ i = (j : Int) ∧ k < m ∧ j < l ∧ l ≤ cr ∧ cr ≤ 9223372036854775807 ∧ W.cell? ⟨g, k, none⟩ = some (.slice (some ⟨gr, 0, none⟩) l cr) ∧ g ≠ gr ∧ gr ≠ ob ∧ gr ≠ b1 ∧ gr ≠ b2 ∧ W.frozen? ⟨gr, j * 2, none⟩ = false ∧ W.frozen? ⟨gr, j * 2 + 1, none⟩ = false ∧ (∃ z, W.cell? ⟨gr, j * 2, none⟩ = some z) ∧ (∃ z, W.cell? ⟨gr, j * 2 + 1, none⟩ = some z) ∧
   ∀ y : Int × Int, Cr wa ((W.setCell ⟨gr, j * 2, none⟩ (.int .i64 y.1)).setCell ⟨gr, j * 2 + 1, none⟩ (.int .i64 y.2)) ob b1 b2 g c m vi vn { N with ends := putEnd N.ends (v, i) y } S a e := by
 unfold hasPortB at hp
 rw [Bool.and_eq_true] at hp
 obtain ⟨p1, p2⟩ := hp
 obtain ⟨p3, p4⟩ := inB_iff.1 p1
 obtain ⟨k, rfl⟩ := Int.eq_ofNat_of_zero_le p3
 have hk : k < N.ends.length := by omega
 obtain ⟨es, hes⟩ := getx N.ends k hk
 rw [Int.toNat_natCast, getD_of hes] at p2
 obtain ⟨p5, p6⟩ := inB_iff.1 p2
 obtain ⟨j, rfl⟩ := Int.eq_ofNat_of_zero_le p5
 have hj : j < es.length := by omega
 obtain ⟨gr, cr, c1, c2, c3, c4, c5, c6, ⟨c7, c8⟩, c9, c10, hup⟩ := h.own.setEnd hes hj
 have hgs : wa.heap.size ≤ gr := (h.own.range gr c5).1
 have hn : ∀ b, b ∉ S → gr ≠ b := fun b hb e => hb (e ▸ c5)
 unfold maxLen at c3
 refine ⟨k, j, gr, cr, es.length, rfl, rfl, by have := h.len; omega, hj, c2, by omega, c1, c6, hn _ h.nb.1, hn _ h.nb.2.1, hn _ h.nb.2.2, c7, c8, c9, c10, fun y => ⟨?_, by rw [← h.len]; exact putEnd_len _ _ _, ?_, ?_, ?_, h.nb, ?_⟩⟩
 ·have := hup y
  unfold putEnd
  simp only [Int.toNat_natCast, getD_of hes]
  exact this
 ·exact (h.box.other (hn _ h.nb.1).symm).other (hn _ h.nb.1).symm
 ·exact (h.e1.other (hn _ h.nb.2.1).symm _ _).other (hn _ h.nb.2.1).symm _ _
 ·exact (h.e2.other (hn _ h.nb.2.2).symm _ _).other (hn _ h.nb.2.2).symm _ _
 ·exact (h.since.setCell hgs _).setCell hgs _
theorem port_nat {ess : List (List (Int × Int))} {v i : Int} (hp : hasPortB ess v i = true) : ∃ k j : Nat, v = (k : Int) ∧ i = (j : Int) := by
 unfold hasPortB at hp
 rw [Bool.and_eq_true] at hp
 obtain ⟨p3, _⟩ := inB_iff.1 hp.1
 obtain ⟨p5, _⟩ := inB_iff.1 hp.2
 exact ⟨v.toNat, i.toNat, by omega, by omega⟩
set_option maxRecDepth 100000 in
set_option maxHeartbeats 8000000 in
theorem atCross_any (ve vi vn : Value) (n : Net) (v i x j : Int) (w : World) (h : NetIn w ve vi vn n) (hn : netOk n = true) (hsz : szNet n ≤ 1048576) (hp : hasPortB n.ends v i = true) (hq : hasPortB n.ends x j = true) :
  Calls Tryz.prog 65 #[.agg #[ve, vi, vn], .int .i64 v, .int .i64 i, .int .i64 x, .int .i64 j] w (NewNet w { n with ends := crossE n v i x j }) := by
 obtain ⟨hbp, -⟩ := netOk_end hn hp
 obtain ⟨hbq, -⟩ := netOk_end hn hq
 obtain ⟨w0, hw0⟩ : ∃ w0, w0 = (w).alloc (.cells #[ve, vi, vn] 27) := ⟨_, rfl⟩
 have hb0 : Below w.heap.size w w0 := by rw [hw0]; exact ((Below.refl _ _).alloc (by simp) _)
 have H := Lib.hid (h.keep hb0)
 obtain ⟨h1, h2, h3⟩ := h.keep hb0
 obtain ⟨A, c, rfl, hlc, hm, hA⟩ := h1
 obtain ⟨A2, c2, rfl, _, hm2, _⟩ := h2
 obtain ⟨A3, c3, rfl, _, hm3, _⟩ := h3
 unfold maxLen at hm hm2 hm3
 have p00 : ∀ W, Since w0 W → W.cell? ⟨w.heap.size, 0, none⟩ = some (.slice A n.ends.length c) := have_cell (by rw [hw0]; simp)
 have p01 : ∀ W, Since w0 W → W.cell? ⟨w.heap.size, 1, none⟩ = some (.slice A2 n.ids.length c2) := have_cell (by rw [hw0]; simp)
 have p02 : ∀ W, Since w0 W → W.cell? ⟨w.heap.size, 2, none⟩ = some (.slice A3 n.inputs.length c3) := have_cell (by rw [hw0]; simp)
 have Hb0 := Lib.hid hb0
 have Hw0 := Lib.hid hw0
 have HA := Lib.hid hA
 clear hA h
 clear hb0 hw0
 obtain ⟨wa, hwa⟩ : ∃ wa, wa = w0.alloc (.cells #[.slice none 0 0, .slice none 0 0, .slice none 0 0] 27) := ⟨_, rfl⟩
 have hsa : Since w0 wa := by rw [hwa]; exact since_alloc _ (since_refl _)
 have h01 : w0.heap.size = w.heap.size + 1 := by rw [Hw0.out]; simp
 have Hza : Hid (wa.heap.size = w.heap.size + 1 + 1) := by show _ = _; rw [hwa, ← h01]; simp
 have HRb : Hid (∀ X, Since wa X → BoxN X (w.heap.size + 1) (.slice none 0 0) (.slice none 0 0) (.slice none 0 0)) := fun X hX => by
  refine BoxN.since (W := wa) ?_ hX
  rw [hwa, ← h01]
  show (w0.heap.push _)[w0.heap.size]? = _
  rw [Array.getElem?_push_size]
 clear h01
 have q00 := lift_cell p00 hsa
 have q01 := lift_cell p01 hsa
 have q02 := lift_cell p02 hsa
 have H' := Lib.hid (H.out.keep hsa.below)
 have Hwa := Lib.hid hwa
 have Hsa := Lib.hid hsa
 have h00 : Since wa wa := since_refl _
 clear hwa hsa p00 p01 p02
 go_enter Tryz.func65, Tryz.ntmps65
 go_upto_region 1 with (fail)
 rw [← Hw0.out, ← Hwa.out]
 go_wp2_with fail
 refine (neOwn_any _ _ _ n wa H'.out hn hsz).mono ?_
 rintro e w2 ⟨ue, ui, un, S, rfl, hon, hb2⟩
 obtain ⟨AE, cE, hvE, _⟩ := id hon.read.1
 obtain ⟨AI, cI, rfl, _⟩ := id hon.read.2.1
 obtain ⟨AN, cN, rfl, _⟩ := id hon.read.2.2
 subst hvE
 have hlen : 0 < n.ends.length := (netOk_len hn).1
 obtain ⟨g, hg⟩ : ∃ g, AE = some ⟨g, 0, none⟩ := by
  obtain ⟨S1, S2, S3, ⟨vs, Ss, h1, _⟩, _⟩ := hon
  rcases ownsRow_cases h1 with ⟨h0, h0'⟩ | ⟨g, cc, h0, _⟩
  ·omega
  ·cases h0; exact ⟨g, rfl⟩
 subst hg
 go_upto_region 2 with (fail)
 obtain ⟨wc, hwc⟩ : ∃ wc, wc = w2.alloc (.cells #[.slice (some ⟨g, 0, none⟩) n.ends.length cE, .slice AI n.ids.length cI, .slice AN n.inputs.length cN] 27) := ⟨_, rfl⟩
 rw [← hwc]
 obtain ⟨ob, hob⟩ : ∃ ob, ob = w2.heap.size := ⟨_, rfl⟩
 rw [← hob]
 have hs2c : Since w2 wc := by rw [hwc]; exact since_alloc _ (since_refl _)
 have hsc : Since wa wc := (Since.trans h00 hb2).after hs2c
 have hbx : BoxN wc ob (.slice (some ⟨g, 0, none⟩) n.ends.length cE) (.slice AI n.ids.length cI) (.slice AN n.inputs.length cN) := by
  rw [hwc, hob]
  show (w2.heap.push _)[w2.heap.size]? = _
  rw [Array.getElem?_push_size]
 have HBx := Lib.hid hbx
 have HC := Lib.hid (hon.keep hs2c.below)
 have HrS := Lib.hid (fun j hj => (hon.range j hj).2)
 have Hob := Lib.hid hob
 have Hs2c := Lib.hid hs2c
 have Hsc := Lib.hid hsc
 have r00 := lift_cell q00 hsc
 have Hc := Lib.hid (H'.out.keep hsc.below)
 have hcc : Since wc wc := since_refl _
 obtain ⟨k1, j1, b, off, c', b1, off1, z1, es1, y1, y2, rfl, rfl, hA, hk1, -, hj1, -, hat1, hz1, hz1', hc1, hc2, hc3⟩ := port_at Hc.out.es hp
 cases hA
 obtain ⟨k2, j2, b', off', c', b2, off2, z2, es2, y3, y4, rfl, rfl, hA, hk2, -, hj2, -, hat2, hz2, hz2', hc4, hc5, hc6⟩ := port_at Hc.out.es hq
 cases hA
 have r1 := have_cell hc1
 have r2 := have_cell hc2
 have r3 := have_cell hc3
 have r4 := have_cell hc4
 have r5 := have_cell hc5
 have r6 := have_cell hc6
 have Hat1 := Lib.hid hat1
 have Hat2 := Lib.hid hat2
 clear hc1 hc2 hc3 hc4 hc5 hc6 hat1 hat2 hwc hob hbx hon hb2 hs2c hsc q00 q01 q02 h00
 refine wp_region_two2 (w0 := wc) 16 12 13 23 31 83 y1 y2 y3 y4 (by kernel_rfl) (by kernel_rfl) rfl (hcc) ⟨_, _, _, rfl⟩ ⟨_, _, _, rfl⟩ ⟨_, _, _, rfl⟩ ⟨_, _, _, rfl⟩ (by decide) (by simp) (by simp) end_zero end_store ?_
 simp only [List.take_succ_cons, List.take_zero]
 refine pflow_val (v := ?_) rfl ?_ ?_; rotate_left; (intro W hW; go_simp; with_reducible rfl)
 simp only [zA]
 refine pflow_val (v := ?_) rfl ?_ ?_; rotate_left; (intro W hW; go_simp; with_reducible rfl)
 simp only [zA]
 refine pflow_val (v := ?_) rfl ?_ ?_; rotate_left; (intro W hW; go_simp; with_reducible rfl)
 simp only [zA]
 refine pflow_val (v := ?_) rfl ?_ ?_; rotate_left; (intro W hW; go_simp; with_reducible rfl)
 simp only [zA]
 refine pflow_val (v := ?_) rfl ?_ ?_; rotate_left; (intro W hW; go_simp; with_reducible rfl)
 simp only [zA]
 refine pflow_val (v := ?_) rfl ?_ ?_; rotate_left; (intro W hW; go_simp; with_reducible rfl)
 simp only [zA]
 refine pflow_val (v := ?_) rfl ?_ ?_; rotate_left; (intro W hW; go_simp; with_reducible rfl)
 simp only [zA]
 refine pflow_val (v := ?_) rfl ?_ ?_; rotate_left; (intro W hW; go_simp; with_reducible rfl)
 simp only [zA]
 refine pflow_val (v := ?_) rfl ?_ ?_; rotate_left; (intro W hW; go_simp; with_reducible rfl)
 simp only [zA]
 refine pflow_val (v := ?_) rfl ?_ ?_; rotate_left; (intro W hW; go_simp; with_reducible rfl)
 simp only [zA]
 refine pflow_val (v := ?_) rfl ?_ ?_; rotate_left; (intro W hW; go_simp; with_reducible rfl)
 simp only [zA]
 refine pflow_val (v := ?_) rfl ?_ ?_; rotate_left; (intro W hW; go_simp; with_reducible rfl)
 simp only [zA]
 refine pflow_val (v := ?_) rfl ?_ ?_; rotate_left; (intro W hW; go_simp; with_reducible rfl)
 simp only [zA]
 refine pflow_val (v := ?_) rfl ?_ ?_; rotate_left; (intro W hW; go_simp; with_reducible rfl)
 simp only [zA]
 refine pflow_val (v := ?_) rfl ?_ ?_; rotate_left; (intro W hW; go_simp; with_reducible rfl)
 simp only [zA]
 refine pflow_val (v := ?_) rfl ?_ ?_; rotate_left; (intro W hW; go_simp; with_reducible rfl)
 simp only [zA]
 refine ⟨rfl, rfl, ?_⟩
 intro b1' b2' W1 hW1 hbl1 hbl2 hE1 hE2
 simp only [zA]
 unfold ptr
 have Hcr : Hid (Cr wa W1 ob b1' b2' g cE n.ends.length (.slice AI n.ids.length cI) (.slice AN n.inputs.length cN) n S (y1, y2) (y3, y4)) :=
  ⟨HC.out.keep hW1.below, rfl, HBx.out.since hW1, hE1, hE2, ⟨fun hj => by have := HrS.out _ hj; have := Hob.out; omega, fun hj => by have := HrS.out _ hj; have := Hs2c.out.below.size; omega, fun hj => by have := HrS.out _ hj; have := Hs2c.out.below.size; omega⟩, Hsc.out.after hW1⟩
 have hbp' : hasPortB n.ends y1 y2 = true := by have := hbp; rw [Hat1.out] at this; exact this
 have hbq' : hasPortB n.ends y3 y4 = true := by have := hbq; rw [Hat2.out] at this; exact this
 clear hbp hbq
 have hbp := hbp'
 have hbq := hbq'
 clear hbp' hbq'
 obtain ⟨k3, j3, rfl, rfl⟩ := port_nat hbp
 obtain ⟨k4, j4, rfl, rfl⟩ := port_nat hbq
 have Hp := Lib.hid hp
 have Hq := Lib.hid hq
 have Hbp := Lib.hid hbp
 have Hbq := Lib.hid hbq
 clear hp hq hbp hbq hE1 hE2 hbl1 hbl2 hW1 r1 r2 r3 r4 r5 r6 r00 hcc
 go_upto_region 3 with (fail)
 have hcr := Hcr.out.drew
 obtain ⟨k, q, gr, cr, l, hk, hq, hkm, hql, hlc, hcm, c1, n1, n2, n3, n4, f0, f1, ⟨z0, c2⟩, ⟨z1', c3⟩, hup⟩ := hcr.port (by first | exact Hp.out | (simp only [putEnd_port]; exact Hp.out))
 obtain rfl : k1 = k := by omega
 obtain rfl : j1 = q := by omega
 clear hk hq
 have hup := hup ((k4 : Int), (j4 : Int))
 have Hup := Lib.hid hup
 clear hup hcr
 replace c1 : W1.cell? _ = _ := c1
 replace c2 : W1.cell? _ = _ := c2
 replace c3 : W1.cell? _ = _ := c3
 replace f0 : W1.frozen? _ = _ := f0
 replace f1 : W1.frozen? _ = _ := f1
 have t0 := have_cell Hcr.out.box.box.cells.1
 have t1 := have_cell c1
 have s0 := have_cell Hcr.out.e1.cells.1
 have s1 := have_cell Hcr.out.e1.cells.2.1
 have s2 := have_cell Hcr.out.e2.cells.1
 have s3 := have_cell Hcr.out.e2.cells.2.1
 have h0 : Since W1 W1 := since_refl _
 refine wp_region_chain0 (w0 := W1) 7 [false, false, false, false, false, false, false] (by kernel_rfl) (by kernel_rfl) (h0) ?_
 simp only [selF, selT, List.take_succ_cons, List.take_zero, List.drop_succ_cons, List.drop_zero]
 refine pflow_val (v := ?_) rfl ?_ ?_; rotate_left; (intro W hW; go_simp; with_reducible rfl)
 simp only [zA]
 refine pflow_val (v := ?_) rfl ?_ ?_; rotate_left; (intro W hW; go_simp; with_reducible rfl)
 simp only [zA]
 refine pflow_val (v := ?_) rfl ?_ ?_; rotate_left; (intro W hW; go_simp; with_reducible rfl)
 simp only [zA]
 refine pflow_val (v := ?_) rfl ?_ ?_; rotate_left; (intro W hW; go_simp; with_reducible rfl)
 simp only [zA]
 refine pflow_val (v := ?_) rfl ?_ ?_; rotate_left; (intro W hW; go_simp; with_reducible rfl)
 simp only [zA]
 refine pflow_val (v := ?_) rfl ?_ ?_; rotate_left; (intro W hW; go_simp; with_reducible rfl)
 simp only [zA]
 refine pflow_val (v := ?_) rfl ?_ ?_; rotate_left; (intro W hW; go_simp; with_reducible rfl)
 simp only [zA]
 simp only [PFlow, TFlow]
 obtain ⟨W, hWd⟩ : ∃ W, W = World.drew W1 := ⟨_, rfl⟩
 rw [← hWd]
 have hW : Since W1 W := by rw [hWd]; exact since_drew (h0)
 go_upto_region 4 with (fail)
 obtain ⟨W2, hWN⟩ : ∃ X, X = World.drew ((W1.setCell ⟨gr, j1 * 2, none⟩ (.int .i64 k4)).setCell ⟨gr, j1 * 2 + 1, none⟩ (.int .i64 j4)) := ⟨_, rfl⟩
 rw [← hWN]
 have Hcr2 := Lib.hid (show Cr wa W2 ob b1' b2' g cE n.ends.length _ _ _ S _ _ from by rw [hWN]; exact Hup.out)
 clear hWN Hcr Hup c1 c2 c3 f0 f1 t0 t1 s0 s1 s2 s3 h0 n1 n2 n3 n4 hkm hql hlc hcm hW hWd W
 have Hcr := Hcr2
 clear Hcr2 z0 z1'
 have hcr := Hcr.out.drew
 obtain ⟨k, q, gr, cr, l, hk, hq, hkm, hql, hlc, hcm, c1, n1, n2, n3, n4, f0, f1, ⟨z0, c2⟩, ⟨z1', c3⟩, hup⟩ := hcr.port (by first | exact Hbq.out | (simp only [putEnd_port]; exact Hbq.out))
 obtain rfl : k4 = k := by omega
 obtain rfl : j4 = q := by omega
 clear hk hq
 have hup := hup ((k1 : Int), (j1 : Int))
 have Hup := Lib.hid hup
 clear hup hcr
 replace c1 : W2.cell? _ = _ := c1
 replace c2 : W2.cell? _ = _ := c2
 replace c3 : W2.cell? _ = _ := c3
 replace f0 : W2.frozen? _ = _ := f0
 replace f1 : W2.frozen? _ = _ := f1
 have t0 := have_cell Hcr.out.box.box.cells.1
 have t1 := have_cell c1
 have s0 := have_cell Hcr.out.e1.cells.1
 have s1 := have_cell Hcr.out.e1.cells.2.1
 have s2 := have_cell Hcr.out.e2.cells.1
 have s3 := have_cell Hcr.out.e2.cells.2.1
 have h0 : Since W2 W2 := since_refl _
 refine wp_region_chain0 (w0 := W2) 11 [false, false, false, false, false, false, false, false, false, false, false] (by kernel_rfl) (by kernel_rfl) (h0) ?_
 simp only [selF, selT, List.take_succ_cons, List.take_zero, List.drop_succ_cons, List.drop_zero]
 refine pflow_val (v := ?_) rfl ?_ ?_; rotate_left; (intro W hW; go_simp; with_reducible rfl)
 simp only [zA]
 refine pflow_val (v := ?_) rfl ?_ ?_; rotate_left; (intro W hW; go_simp; with_reducible rfl)
 simp only [zA]
 refine pflow_val (v := ?_) rfl ?_ ?_; rotate_left; (intro W hW; go_simp; with_reducible rfl)
 simp only [zA]
 refine pflow_val (v := ?_) rfl ?_ ?_; rotate_left; (intro W hW; go_simp; with_reducible rfl)
 simp only [zA]
 refine pflow_val (v := ?_) rfl ?_ ?_; rotate_left; (intro W hW; go_simp; with_reducible rfl)
 simp only [zA]
 refine pflow_val (v := ?_) rfl ?_ ?_; rotate_left; (intro W hW; go_simp; with_reducible rfl)
 simp only [zA]
 refine pflow_val (v := ?_) rfl ?_ ?_; rotate_left; (intro W hW; go_simp; with_reducible rfl)
 simp only [zA]
 refine pflow_val (v := ?_) rfl ?_ ?_; rotate_left; (intro W hW; go_simp; with_reducible rfl)
 simp only [zA]
 refine pflow_val (v := ?_) rfl ?_ ?_; rotate_left; (intro W hW; go_simp; with_reducible rfl)
 simp only [zA]
 refine pflow_val (v := ?_) rfl ?_ ?_; rotate_left; (intro W hW; go_simp; with_reducible rfl)
 simp only [zA]
 refine pflow_val (v := ?_) rfl ?_ ?_; rotate_left; (intro W hW; go_simp; with_reducible rfl)
 simp only [zA]
 simp only [PFlow, TFlow]
 obtain ⟨W, hWd⟩ : ∃ W, W = World.drew W2 := ⟨_, rfl⟩
 rw [← hWd]
 have hW : Since W2 W := by rw [hWd]; exact since_drew (h0)
 go_upto_region 5 with (fail)
 obtain ⟨W3, hWN⟩ : ∃ X, X = World.drew ((W2.setCell ⟨gr, j4 * 2, none⟩ (.int .i64 k1)).setCell ⟨gr, j4 * 2 + 1, none⟩ (.int .i64 j1)) := ⟨_, rfl⟩
 rw [← hWN]
 have Hcr2 := Lib.hid (show Cr wa W3 ob b1' b2' g cE n.ends.length _ _ _ S _ _ from by rw [hWN]; exact Hup.out)
 clear hWN Hcr Hup c1 c2 c3 f0 f1 t0 t1 s0 s1 s2 s3 h0 n1 n2 n3 n4 hkm hql hlc hcm hW hWd W
 have Hcr := Hcr2
 clear Hcr2 z0 z1'
 have hcr := Hcr.out.drew
 obtain ⟨k, q, gr, cr, l, hk, hq, hkm, hql, hlc, hcm, c1, n1, n2, n3, n4, f0, f1, ⟨z0, c2⟩, ⟨z1', c3⟩, hup⟩ := hcr.port (by first | exact Hq.out | (simp only [putEnd_port]; exact Hq.out))
 obtain rfl : k2 = k := by omega
 obtain rfl : j2 = q := by omega
 clear hk hq
 have hup := hup ((k3 : Int), (j3 : Int))
 have Hup := Lib.hid hup
 clear hup hcr
 replace c1 : W3.cell? _ = _ := c1
 replace c2 : W3.cell? _ = _ := c2
 replace c3 : W3.cell? _ = _ := c3
 replace f0 : W3.frozen? _ = _ := f0
 replace f1 : W3.frozen? _ = _ := f1
 have t0 := have_cell Hcr.out.box.box.cells.1
 have t1 := have_cell c1
 have s0 := have_cell Hcr.out.e1.cells.1
 have s1 := have_cell Hcr.out.e1.cells.2.1
 have s2 := have_cell Hcr.out.e2.cells.1
 have s3 := have_cell Hcr.out.e2.cells.2.1
 have h0 : Since W3 W3 := since_refl _
 refine wp_region_chain0 (w0 := W3) 7 [false, false, false, false, false, false, false] (by kernel_rfl) (by kernel_rfl) (h0) ?_
 simp only [selF, selT, List.take_succ_cons, List.take_zero, List.drop_succ_cons, List.drop_zero]
 refine pflow_val (v := ?_) rfl ?_ ?_; rotate_left; (intro W hW; go_simp; with_reducible rfl)
 simp only [zA]
 refine pflow_val (v := ?_) rfl ?_ ?_; rotate_left; (intro W hW; go_simp; with_reducible rfl)
 simp only [zA]
 refine pflow_val (v := ?_) rfl ?_ ?_; rotate_left; (intro W hW; go_simp; with_reducible rfl)
 simp only [zA]
 refine pflow_val (v := ?_) rfl ?_ ?_; rotate_left; (intro W hW; go_simp; with_reducible rfl)
 simp only [zA]
 refine pflow_val (v := ?_) rfl ?_ ?_; rotate_left; (intro W hW; go_simp; with_reducible rfl)
 simp only [zA]
 refine pflow_val (v := ?_) rfl ?_ ?_; rotate_left; (intro W hW; go_simp; with_reducible rfl)
 simp only [zA]
 refine pflow_val (v := ?_) rfl ?_ ?_; rotate_left; (intro W hW; go_simp; with_reducible rfl)
 simp only [zA]
 simp only [PFlow, TFlow]
 obtain ⟨W, hWd⟩ : ∃ W, W = World.drew W3 := ⟨_, rfl⟩
 rw [← hWd]
 have hW : Since W3 W := by rw [hWd]; exact since_drew (h0)
 go_upto_region 6 with (fail)
 obtain ⟨W4, hWN⟩ : ∃ X, X = World.drew ((W3.setCell ⟨gr, j2 * 2, none⟩ (.int .i64 k3)).setCell ⟨gr, j2 * 2 + 1, none⟩ (.int .i64 j3)) := ⟨_, rfl⟩
 rw [← hWN]
 have Hcr2 := Lib.hid (show Cr wa W4 ob b1' b2' g cE n.ends.length _ _ _ S _ _ from by rw [hWN]; exact Hup.out)
 clear hWN Hcr Hup c1 c2 c3 f0 f1 t0 t1 s0 s1 s2 s3 h0 n1 n2 n3 n4 hkm hql hlc hcm hW hWd W
 have Hcr := Hcr2
 clear Hcr2 z0 z1'
 have hcr := Hcr.out.drew
 obtain ⟨k, q, gr, cr, l, hk, hq, hkm, hql, hlc, hcm, c1, n1, n2, n3, n4, f0, f1, ⟨z0, c2⟩, ⟨z1', c3⟩, hup⟩ := hcr.port (by first | exact Hbp.out | (simp only [putEnd_port]; exact Hbp.out))
 obtain rfl : k3 = k := by omega
 obtain rfl : j3 = q := by omega
 clear hk hq
 have hup := hup ((k2 : Int), (j2 : Int))
 have Hup := Lib.hid hup
 clear hup hcr
 replace c1 : W4.cell? _ = _ := c1
 replace c2 : W4.cell? _ = _ := c2
 replace c3 : W4.cell? _ = _ := c3
 replace f0 : W4.frozen? _ = _ := f0
 replace f1 : W4.frozen? _ = _ := f1
 have t0 := have_cell Hcr.out.box.box.cells.1
 have t1 := have_cell c1
 have s0 := have_cell Hcr.out.e1.cells.1
 have s1 := have_cell Hcr.out.e1.cells.2.1
 have s2 := have_cell Hcr.out.e2.cells.1
 have s3 := have_cell Hcr.out.e2.cells.2.1
 have h0 : Since W4 W4 := since_refl _
 refine wp_region_chain0 (w0 := W4) 11 [false, false, false, false, false, false, false, false, false, false, false] (by kernel_rfl) (by kernel_rfl) (h0) ?_
 simp only [selF, selT, List.take_succ_cons, List.take_zero, List.drop_succ_cons, List.drop_zero]
 refine pflow_val (v := ?_) rfl ?_ ?_; rotate_left; (intro W hW; go_simp; with_reducible rfl)
 simp only [zA]
 refine pflow_val (v := ?_) rfl ?_ ?_; rotate_left; (intro W hW; go_simp; with_reducible rfl)
 simp only [zA]
 refine pflow_val (v := ?_) rfl ?_ ?_; rotate_left; (intro W hW; go_simp; with_reducible rfl)
 simp only [zA]
 refine pflow_val (v := ?_) rfl ?_ ?_; rotate_left; (intro W hW; go_simp; with_reducible rfl)
 simp only [zA]
 refine pflow_val (v := ?_) rfl ?_ ?_; rotate_left; (intro W hW; go_simp; with_reducible rfl)
 simp only [zA]
 refine pflow_val (v := ?_) rfl ?_ ?_; rotate_left; (intro W hW; go_simp; with_reducible rfl)
 simp only [zA]
 refine pflow_val (v := ?_) rfl ?_ ?_; rotate_left; (intro W hW; go_simp; with_reducible rfl)
 simp only [zA]
 refine pflow_val (v := ?_) rfl ?_ ?_; rotate_left; (intro W hW; go_simp; with_reducible rfl)
 simp only [zA]
 refine pflow_val (v := ?_) rfl ?_ ?_; rotate_left; (intro W hW; go_simp; with_reducible rfl)
 simp only [zA]
 refine pflow_val (v := ?_) rfl ?_ ?_; rotate_left; (intro W hW; go_simp; with_reducible rfl)
 simp only [zA]
 refine pflow_val (v := ?_) rfl ?_ ?_; rotate_left; (intro W hW; go_simp; with_reducible rfl)
 simp only [zA]
 simp only [PFlow, TFlow]
 obtain ⟨W, hWd⟩ : ∃ W, W = World.drew W4 := ⟨_, rfl⟩
 rw [← hWd]
 have hW : Since W4 W := by rw [hWd]; exact since_drew (h0)
 go_upto_region 7 with (fail)
 obtain ⟨W5, hWN⟩ : ∃ X, X = World.drew ((W4.setCell ⟨gr, j3 * 2, none⟩ (.int .i64 k2)).setCell ⟨gr, j3 * 2 + 1, none⟩ (.int .i64 j2)) := ⟨_, rfl⟩
 rw [← hWN]
 have Hcr2 := Lib.hid (show Cr wa W5 ob b1' b2' g cE n.ends.length _ _ _ S _ _ from by rw [hWN]; exact Hup.out)
 clear hWN Hcr Hup c1 c2 c3 f0 f1 t0 t1 s0 s1 s2 s3 h0 n1 n2 n3 n4 hkm hql hlc hcm hW hWd W
 have Hcr := Hcr2
 clear Hcr2 z0 z1'
 have HR := HRb.out W5 Hcr.out.since
 obtain ⟨c0, c1, c2', _, _, _⟩ := Hcr.out.box.box.cells
 obtain ⟨d0, d1, d2, f0, f1, f2⟩ := HR.box.cells
 have HR' := Lib.hid HR
 clear HR
 go_wp2
 refine bodyPost_ret (v := .agg #[.slice (some ⟨g, 0, none⟩) n.ends.length cE, .slice AI n.ids.length cI, .slice AN n.inputs.length cN]) (by simp [results, Tryz.results65, go_sem, *]) rfl ?_
 have hx := Hcr.out.own
 refine ⟨_, _, _, S, rfl, ?_, ?_⟩
 ·have e : crossE n (k1 : Int) (j1 : Int) (k2 : Int) (j2 : Int) = putEnd (putEnd (putEnd (putEnd n.ends ((k1 : Int), (j1 : Int)) ((k4 : Int), (j4 : Int))) ((k4 : Int), (j4 : Int)) ((k1 : Int), (j1 : Int))) ((k2 : Int), (j2 : Int)) ((k3 : Int), (j3 : Int))) ((k3 : Int), (j3 : Int)) ((k2 : Int), (j2 : Int)) := by
   unfold crossE
   rw [Hat1.out, Hat2.out]
  rw [e]
  refine (hx.stable (fun j hj => ?_)).mono (Nat.le_trans Hb0.out.size Hsa.out.below.size)
  have hj1 := (hx.range j hj).1
  have hj2 := Hza.out
  rw [Below.heap_setCell _ _ _ j (by simp; omega), Below.heap_setCell _ _ _ j (by simp; omega), Below.heap_setCell _ _ _ j (by simp; omega)]
 ·exact (((Below.trans Hb0.out ((Hsa.out.after Hcr.out.since).below.mono Hb0.out.size)).setCell (by simp) _).setCell (by simp) _).setCell (by simp) _
end Go.Proofs.YtgmdpppljkmabaaGreat
namespace Go.Proofs.YtgmdpppljkmabaaGreat
open Go.RowKit
def rangesL (s : Int) : List Int := if s = 4 then [100] else if s = 5 then [100, 10, 2] else []
theorem rangesOf_any (s : Int) (w : World) :
  Calls Tryz.prog 111 #[.int .i64 s] w fun e w' => ∃ u, e = .returned u ∧ Own w' w.heap.size u (rangesL s) ∧ Below w.heap.size w w' := by
 unfold rangesL
 by_cases h4 : s = 4
 ·subst h4
  go_enter Tryz.func111, Tryz.ntmps111
  go_wp2
  go_ret
  exact ⟨_, rfl, own_lit w [100] (by simp [maxLen]), below_alloc _ _⟩
 ·by_cases h5 : s = 5
  ·subst h5
   go_enter Tryz.func111, Tryz.ntmps111
   go_wp2
   go_ret
   exact ⟨_, rfl, own_lit w [100, 10, 2] (by simp [maxLen]), below_alloc _ _⟩
  ·have h4' : (s == 4) = false := by simpa using h4
   have h5' : (s == 5) = false := by simpa using h5
   rw [if_neg h4, if_neg h5]
   clear h4 h5
   go_enter Tryz.func111, Tryz.ntmps111
   go_wp2
   go_ret
   exact ⟨_, rfl, own_nil _ _, Below.refl _ _⟩
end Go.Proofs.YtgmdpppljkmabaaGreat
namespace Go.Proofs.YtgmdpppljkmabaaGreat
open Go.RowKit
theorem Own.lit {w : World} {base : Nat} {v : Value} {x : Int} {xs : List Int} (h : Own w base v (x :: xs)) : ∃ g c, v = .slice (some ⟨g, 0, none⟩) (xs.length + 1) c ∧ base ≤ g ∧ g < w.heap.size ∧ xs.length + 1 ≤ c ∧ ∀ k y, (x :: xs)[k]? = some y → w.cell? ⟨g, k, none⟩ = some (.int .i64 y) := by
 rcases h.2 with ⟨rfl, h0⟩ | ⟨g, cap, cur, rfl, hb, hg, hnc, hm, hcs, htake⟩
 ·simp at h0
 ·exact ⟨g, cap, rfl, hb, (Array.getElem?_eq_some_iff.1 hg).1, hnc, fun k y hy => Own.cell h hy⟩
theorem IntS.lit {w : World} {v : Value} {x : Int} {xs : List Int} (h : IntS w v (x :: xs)) : ∃ b off c, v = .slice (some ⟨b, off, none⟩) (xs.length + 1) c ∧ b < w.heap.size ∧ ∀ k y, (x :: xs)[k]? = some y → w.cell? ⟨b, off + k, none⟩ = some (.int .i64 y) := by
 obtain ⟨A, c, rfl, hlc, hm, hA⟩ := h
 obtain ⟨b, off, rfl, h0⟩ := hA 0 x rfl
 refine ⟨b, off, c, rfl, World.block_lt_of_cell? w _ h0, fun k y hy => ?_⟩
 obtain ⟨b', off', he, hc⟩ := hA k y hy
 injection he with he
 injection he with h1 h2
 subst h1 h2
 exact hc
end Go.Proofs.YtgmdpppljkmabaaGreat
