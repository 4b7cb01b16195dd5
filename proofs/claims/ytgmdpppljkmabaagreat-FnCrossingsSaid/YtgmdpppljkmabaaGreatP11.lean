/- Parts of the proof: walks of functions and plain laws. -/
import Derived.Test.YtgmdpppljkmabaaGreatP0
import Derived.Test.YtgmdpppljkmabaaGreatP6
import Derived.Test.YtgmdpppljkmabaaGreatP2
import Derived.Test.YtgmdpppljkmabaaGreatP5
import Derived.Test.YtgmdpppljkmabaaGreatP10
import Derived.Test.YtgmdpppljkmabaaGreatP8
namespace Go.Proofs.YtgmdpppljkmabaaGreat
open Go Go.RowKit
/-! A region that draws its order: reads, a call that makes a row of integers, a new variable of type int, a slot for the row. -/
def I1 (W : World) (b : Nat) (x : Int) : Prop := W.heap[b]? = some (.cells #[.int .i64 x] 3)
theorem I1.cells {W : World} {b : Nat} {x : Int} (h : I1 W b x) : W.cell? ⟨b, 0, none⟩ = some (.int .i64 x) ∧ W.frozen? ⟨b, 0, none⟩ = false := by
 unfold I1 at h
 simp [World.cell?, World.frozen?, h]
theorem I1.lt {W : World} {b : Nat} {x : Int} (h : I1 W b x) : b < W.heap.size := (Array.getElem?_eq_some_iff.1 h).1
theorem I1.since {W W' : World} {b : Nat} {x : Int} (h : I1 W b x) (hs : Since W W') : I1 W' b x := (hs.below.block b h.lt).trans h
theorem I1.set {W : World} {b : Nat} {x : Int} (h : I1 W b x) (y : Int) : I1 (W.setCell ⟨b, 0, none⟩ (.int .i64 y)) b y := by
 unfold I1 at *
 simp [World.setCell, Array.getElem?_modify, h]
theorem I1.new (W : World) (x : Int) : I1 (W.alloc (.cells #[.int .i64 x] 3)) W.heap.size x := by
 show (W.heap.push _)[W.heap.size]? = _
 rw [Array.getElem?_push_size]
theorem int_zero (ev : Operand → Value) (d : Option Tmp) (ty : TypeId) (pos : String) (af : Array Edge) (W : World) : (execOp ev ⟨d, .alloc 3, ty, pos, af, none⟩).run Tryz.prog W = .ok (.value (ptr W.heap.size)) (W.alloc (.cells #[.int .i64 0] 3)) := by
 unfold ptr
 go_simp
theorem int_store (ev : Operand → Value) (ty : TypeId) (pos : String) (af : Array Edge) (W : World) (p x : Operand) (b : Nat) (q1 : Value) (y1 : Int) (h1 : ev p = ptr b) (h2 : ev x = .int .i64 y1) (h3 : W.cell? ⟨b, 0, none⟩ = some q1) (h5 : W.frozen? ⟨b, 0, none⟩ = false) :
  (execOp ev ⟨none, .store 3 p x, ty, pos, af, none⟩).run Tryz.prog W = .ok .skip (W.setCell ⟨b, 0, none⟩ (.int .i64 y1)) := by
 unfold ptr at h1
 go_simp
theorem own_setCell {W : World} {base b : Nat} {u : Value} {xs : List Int} (h : Own W base u xs) (hd : u.ownBlock ≠ some b) (v : Value) : Own (W.setCell ⟨b, 0, none⟩ v) base u xs :=
 ownsRow_stable h fun k hk => Below.heap_setCell W _ v k (fun e => hd (by simp at hk; rw [hk, e]))
section
variable {ops : Array Oper}
theorem wp_region_near {Q : Exit → Act → World → Prop} {rid : Nat} {a : Act} {w w0 : World} (m d x c s : Nat) (y : Int) (xs : List Int) (hm : Tryz.prog.follows .mixedOrders = true) (hf : flowB ops (m + 4) = true) (hsz : ops.size = m + 4) (hs0 : Since w0 w) {oc : Oper} (s0 : ops[m]? = some oc) (hoc : oc.dst = some c)
  (s1 : ∃ ty pos af, ops[m + 1]? = some ⟨some d, .alloc 3, ty, pos, af, none⟩) (s2 : ∃ ty pos af, ops[m + 2]? = some ⟨none, .store 3 (.tmp d) (.tmp x), ty, pos, af, none⟩) (s3 : ∃ ty pos af, ops[m + 3]? = some ⟨some s, .assign (.tmp c), ty, pos, af, none⟩)
  (hx : x ≠ d ∧ x ≠ c ∧ x ≠ s) (hd : d < a.tmps.size) (hc : c < a.tmps.size)
  (h : PFlow Tryz.prog ops w0 (fun A => A.eval (.tmp x) = .int .i64 y ∧ (Region.wanted oc (yielded ops A.tmps) = true ∧ ∀ W, Since w0 W → GivesAny Tryz.prog (fun W' u => Own W' W.heap.size u xs) oc A W) ∧
   ∀ u b W, Since w0 W → Own W w0.heap.size u xs → I1 W b y → Q .normal (((A.put (some c) u).put (some d) (ptr b)).put (some s) u) W) (ops.toList.take m) a) : (Code.region rid ops true).wp Tryz.prog Q a w := by
 have hok := flow_ok hf
 obtain ⟨vals, F, h0, ⟨hx1, ⟨hw1, hg1⟩, hfin⟩, hst'⟩ := pflow_frames _ a h
 have hlen : (ops.toList.take m).length = m := by simp; omega
 rw [hlen] at hx1 hw1 hg1 hfin
 have hget : ∀ i o, i < m → ops[i]? = some o → (ops.toList.take m)[i]? = some o := fun i o hi ho => by
  rw [List.getElem?_take, if_pos hi]; simpa using ho
 obtain ⟨ty1, ps1, af1, s1⟩ := s1
 obtain ⟨ty2, ps2, af2, s2⟩ := s2
 obtain ⟨ty3, ps3, af3, s3⟩ := s3
 have hF0 : ∀ i, i ≤ m → FrameIs a ops vals (fun j => j < i) (F i) := by
  intro i
  induction i with
  | zero => intro _; rw [h0]; exact ⟨rfl, rfl, fun j _ _ hj => absurd hj (by omega), fun _ _ => rfl⟩
  | succ i ih =>
   intro hi
   have hi' : i < ops.size := by omega
   have ho : ops[i]? = some ops[i] := Array.getElem?_eq_getElem hi'
   rw [(hst' i _ (hget i _ (by omega) ho)).2]
   exact ((ih (by omega)).put ho (fun j oj d hj hoj hd hd2 => by
    have := hok.dsts i _ (by omega) ho j oj (by omega) hoj d hd hd2
    omega)).same (fun j => by show (j < i ∨ j = i) ↔ j < i + 1; omega)
 let V : Value → Nat → Nat → Value := fun u b j => if j = m then u else if j = m + 1 then ptr b else if j = m + 3 then u else vals j
 have v0 : ∀ u b, V u b m = u := fun u b => if_pos rfl
 have v1 : ∀ u b, V u b (m + 1) = ptr b := fun u b => by show (if m + 1 = m then _ else if m + 1 = m + 1 then _ else _) = _; rw [if_neg (by omega), if_pos rfl]
 have v3 : ∀ u b, V u b (m + 3) = u := fun u b => by show (if m + 3 = m then _ else if m + 3 = m + 1 then _ else if m + 3 = m + 3 then _ else _) = _; rw [if_neg (by omega), if_neg (by omega), if_pos rfl]
 have vv : ∀ u b j, j < m → V u b j = vals j := fun u b j hj => by show (if j = m then _ else if j = m + 1 then _ else if j = m + 3 then _ else vals j) = _; rw [if_neg (by omega), if_neg (by omega), if_neg (by omega)]
 have hF : ∀ u b i, i ≤ m → FrameIs a ops (V u b) (fun j => j < i) (F i) := fun u b i hi => (hF0 i hi).vals (fun j hj => (vv u b j (by omega)).symm)
 refine wp_region_inv hm hok.back (fun D a' W => Since w0 W ∧ ∃ u b, FrameIs a ops (V u b) D a' ∧ (D m → Own W w0.heap.size u xs) ∧ (D (m + 1) → w0.heap.size ≤ b ∧ (D (m + 2) → I1 W b y) ∧ (¬ D (m + 2) → I1 W b 0)) ∧ (D m → D (m + 1) → u.ownBlock ≠ some b)) ?_ ?_ ?_
 ·exact ⟨since_drew hs0, undef, 0, ⟨rfl, rfl, fun j _ _ hj => hj.elim, fun _ _ => rfl⟩, fun h => h.elim, fun h => h.elim, fun h => h.elim⟩
 ·rintro D a' W i o ⟨hW, u, b, hfr, hO, hB, hne⟩ ho hDi hdep hcl
  have hin : i < m + 4 := by have := (Array.getElem?_eq_some_iff.1 ho).1; omega
  have look : ∀ t ∈ o.looksAt ops, ∀ j oj, ops[j]? = some oj → oj.dst = some t → D j ∧ j < i := fun t ht j oj hoj hd => by
   have hjn : j < m + 4 := by have := (Array.getElem?_eq_some_iff.1 hoj).1; omega
   have := hok.looks i o hin ho t ht j oj hjn hoj hd
   exact ⟨hdep j this, hok.back i o ho j this⟩
  have dist : ∀ j oj d, D j → ops[j]? = some oj → o.dst = some d → oj.dst ≠ some d := fun j oj d hj hoj hd hd2 => by
   have hjn : j < m + 4 := by have := (Array.getElem?_eq_some_iff.1 hoj).1; omega
   have := hok.dsts i o hin ho j oj hjn hoj d hd hd2
   subst this
   exact hDi hj
  have old : ∀ j, (D j ∨ j = i) → j ≠ i → D j := fun j h hj => h.elim (fun h => h) fun e => absurd e hj
  rcases Nat.lt_or_ge i m with him | him
  ·obtain ⟨⟨hw, hrun⟩, -⟩ := hst' i o (hget i o him ho)
   obtain ⟨he, hw'⟩ := agree_exec (ops := ops) (a' := a') (A := F i) (fun t ht => hfr.agree (hF u b i (by omega)) t (fun j oj hj hoj hd => look t ht j oj hoj hd)) (fun cs b => hok.nosel i o cs b ho)
   rw [if_pos (hw'.trans hw)]
   unfold Oper.wp
   rw [he, hrun W hW]
   refine ⟨hW, u, b, ?_, fun h => hO (old _ h (by omega)), fun h => ?_, fun h h' => hne (old _ h (by omega)) (old _ h' (by omega))⟩
   ·have := hfr.put (i := i) ho dist
    rwa [vv u b i him] at this
   ·obtain ⟨q1, q2, q3⟩ := hB (old _ h (by omega))
    exact ⟨q1, fun h => q2 (old _ h (by omega)), fun h => q3 fun hh => h (.inl hh)⟩
  ·obtain rfl | rfl | rfl | rfl : i = m ∨ i = m + 1 ∨ i = m + 2 ∨ i = m + 3 := by omega
   ·rw [s0] at ho; cases ho
    obtain ⟨he, hw'⟩ := agree_exec (ops := ops) (a' := a') (A := F i) (fun t ht => hfr.agree (hF u b i (Nat.le_refl _)) t (fun j oj hj hoj hd => look t ht j oj hoj hd)) (fun cs b => hok.nosel i _ cs b s0)
    rw [if_pos (hw'.trans hw1)]
    unfold Oper.wp
    rw [he]
    have hgv := hg1 W hW
    unfold GivesAny at hgv
    have n3 : ¬ D (i + 3) := fun h => hDi (hcl _ _ h s3 _ (hok.looks (i + 3) _ (by omega) s3 c (by simp [Oper.looksAt, Op.operands]) i _ (by omega) s0 hoc))
    have next : ∀ u' W', Own W' W.heap.size u' xs → Since W W' → Since w0 W' ∧ ∃ u b, FrameIs a ops (V u b) (fun j => D j ∨ j = i) (a'.put oc.dst u') ∧ ((D i ∨ i = i) → Own W' w0.heap.size u xs) ∧ ((D (i + 1) ∨ i + 1 = i) → w0.heap.size ≤ b ∧ ((D (i + 2) ∨ i + 2 = i) → I1 W' b y) ∧ (¬ (D (i + 2) ∨ i + 2 = i) → I1 W' b 0)) ∧ ((D i ∨ i = i) → (D (i + 1) ∨ i + 1 = i) → u.ownBlock ≠ some b) := fun u' W' hr hs => by
     refine ⟨hW.after hs, u', b, ?_, fun _ => hr.mono hW.below.size, fun h => ?_, fun _ h => ?_⟩
     ·have := (hfr.vals2 (v' := V u' b) (fun j hjn hj => by
       rcases Nat.lt_or_ge j i with h | h
       ·rw [vv _ _ _ h, vv _ _ _ h]
       ·obtain rfl | rfl | rfl | rfl : j = i ∨ j = i + 1 ∨ j = i + 2 ∨ j = i + 3 := by omega
        ·exact absurd hj hDi
        ·rw [v1, v1]
        ·show (if i + 2 = i then _ else if i + 2 = i + 1 then _ else if i + 2 = i + 3 then _ else vals (i + 2)) = (if i + 2 = i then _ else if i + 2 = i + 1 then _ else if i + 2 = i + 3 then _ else vals (i + 2))
         rw [if_neg (by omega), if_neg (by omega), if_neg (by omega), if_neg (by omega), if_neg (by omega), if_neg (by omega)]
        ·exact absurd hj n3)).put (i := i) s0 dist
      rwa [v0] at this
     ·obtain ⟨q1, q2, q3⟩ := hB (old _ h (by omega))
      exact ⟨q1, fun h => (q2 (old _ h (by omega))).since hs, fun h => (q3 fun hh => h (.inl hh)).since hs⟩
     ·obtain ⟨q1, q2, q3⟩ := hB (old _ h (by omega))
      have hbl : b < W.heap.size := by
       by_cases h2 : D (i + 2)
       ·exact (q2 h2).lt
       ·exact (q3 h2).lt
      intro e
      have := (World.ownsRow.lt hr b e).1
      omega
    generalize (execOp (F i).eval oc).run Tryz.prog W = r at hgv ⊢
    cases r with
    | ok nx W' =>
     cases nx with
     | value u' => exact next u' W' hgv.1 hgv.2
     | enter f args =>
      simp only at hgv
      rw [Oper.upon_enter]
      exact hgv.mono fun e W'' ⟨u', he', hr, hs⟩ => by subst he'; exact next u' W'' hr hs
     | _ => exact hgv.elim
    | halt x W' => exact hgv.elim
   ·rw [s1] at ho; cases ho
    rw [if_pos (show Region.wanted (⟨some d, .alloc 3, ty1, ps1, af1, none⟩ : Oper) (yielded ops a'.tmps) = true from rfl)]
    unfold Oper.wp
    rw [int_zero]
    have n2 : ¬ D (m + 2) := fun h => hDi (hcl _ _ h s2 _ (hok.looks (m + 2) _ (by omega) s2 d (by simp [Oper.looksAt, Op.operands]) (m + 1) _ (by omega) s1 rfl))
    refine ⟨since_alloc _ hW, u, W.heap.size, ?_, fun h => (hO (old _ h (by omega))).since (since_alloc _ (since_refl _)), fun _ => ⟨hW.below.size, fun h => (n2 (old _ h (by omega))).elim, fun _ => I1.new W 0⟩, fun h _ e => ?_⟩
    ·have := (hfr.vals2 (v' := V u W.heap.size) (fun j hjn hj => by
      rcases Nat.lt_or_ge j m with h | h
      ·rw [vv _ _ _ h, vv _ _ _ h]
      ·obtain rfl | rfl | rfl | rfl : j = m ∨ j = m + 1 ∨ j = m + 2 ∨ j = m + 3 := by omega
       ·rw [v0, v0]
       ·exact absurd hj hDi
       ·exact absurd hj n2
       ·rw [v3, v3])).put (i := m + 1) s1 dist
     rwa [v1] at this
    ·have := (World.ownsRow.lt (hO (old _ h (by omega))) _ e).2
     omega
   ·rw [s2] at ho; cases ho
    rw [if_pos (show Region.wanted (⟨none, .store 3 (.tmp d) (.tmp x), ty2, ps2, af2, none⟩ : Oper) (yielded ops a'.tmps) = true from rfl)]
    have hD1 : D (m + 1) := (look d (by simp [Oper.looksAt, Op.operands]) (m + 1) _ s1 rfl).1
    obtain ⟨q1, q2, q3⟩ := hB hD1
    have q := q3 hDi
    obtain ⟨c1, c2⟩ := q.cells
    have e1 : a'.eval (.tmp d) = ptr b := by
     have := hfr.on (m + 1) _ d hD1 s1 rfl hd
     simp only [Act.eval, Array.getD_eq_getD_getElem?, this, Option.getD_some]
     exact v1 u b
    have e2 : a'.eval (.tmp x) = .int .i64 y := by
     rw [← hx1]
     have := hfr.agree (hF u b m (Nat.le_refl _)) x (fun j oj hj hoj hdd => ⟨(look x (by simp [Oper.looksAt, Op.operands]) j oj hoj hdd).1, by
      have hj' := (look x (by simp [Oper.looksAt, Op.operands]) j oj hoj hdd).2
      rcases Nat.lt_or_ge j m with hh | hh
      ·exact hh
      ·exfalso
       obtain rfl | rfl : j = m ∨ j = m + 1 := by omega
       ·rw [s0] at hoj; cases hoj
        rw [hoc] at hdd
        exact hx.2.1 (Option.some.inj hdd).symm
       ·rw [s1] at hoj; cases hoj
        exact hx.1 (Option.some.inj hdd).symm⟩)
     simp [Act.eval, this]
    unfold Oper.wp
    rw [int_store a'.eval _ _ _ W _ _ b _ y e1 e2 c1 c2]
    refine ⟨Below.setCell hW q1 _, u, b, ?_, fun h => own_setCell (hO (old _ h (by omega))) (hne (old _ h (by omega)) hD1) _, fun _ => ⟨q1, fun _ => q.set y, fun h => (h (.inr rfl)).elim⟩, fun h _ => hne (old _ h (by omega)) hD1⟩
    exact hfr.put (i := m + 2) s2 dist
   ·rw [s3] at ho; cases ho
    rw [if_pos (show Region.wanted (⟨some s, .assign (.tmp c), ty3, ps3, af3, none⟩ : Oper) (yielded ops a'.tmps) = true from rfl)]
    have hD0 : D m := (look c (by simp [Oper.looksAt, Op.operands]) m _ s0 hoc).1
    have e1 : a'.eval (.tmp c) = u := by
     have := hfr.on m _ c hD0 s0 hoc hc
     simp only [Act.eval, Array.getD_eq_getD_getElem?, this, Option.getD_some]
     exact v0 u b
    unfold Oper.wp
    have hrun : (execOp a'.eval ⟨some s, .assign (.tmp c), ty3, ps3, af3, none⟩).run Tryz.prog W = .ok (.value u) W := by
     rw [← e1]
     generalize a'.eval = ev
     simp [execOp, go_sem]
    rw [hrun]
    refine ⟨hW, u, b, ?_, fun h => hO (old _ h (by omega)), fun h => ?_, fun h h' => hne (old _ h (by omega)) (old _ h' (by omega))⟩
    ·have := hfr.put (i := m + 3) s3 dist
     rwa [v3] at this
    ·obtain ⟨q1, q2, q3⟩ := hB (old _ h (by omega))
     exact ⟨q1, fun h => q2 (old _ h (by omega)), fun h => q3 fun hh => h (.inl hh)⟩
 ·rintro D a' W ⟨hW, u, b, hfr, hO, hB, hne⟩ hall
  have dst1 : ∀ i o, i < m + 4 → ops[i]? = some o → ∀ j oj d, j < i → ops[j]? = some oj → o.dst = some d → oj.dst ≠ some d := fun i o hi ho j oj d hj hoj hd hd2 => by
   have := hok.dsts i o hi ho j oj (by omega) hoj d hd hd2
   omega
  have f1 := ((hF u b m (Nat.le_refl _)).put (i := m) s0 (fun j oj d hj hoj => dst1 m _ (by omega) s0 j oj d hj hoj)).same (E := fun j => j < m + 1) (fun j => by show (j < m ∨ j = m) ↔ j < m + 1; omega)
  have f2 := (f1.put (i := m + 1) s1 (fun j oj d hj hoj => dst1 (m + 1) _ (by omega) s1 j oj d hj hoj)).same (E := fun j => j < m + 2) (fun j => by show (j < m + 1 ∨ j = m + 1) ↔ j < m + 2; omega)
  have f3 := (f2.put (i := m + 2) s2 (fun j oj d hj hoj => dst1 (m + 2) _ (by omega) s2 j oj d hj hoj)).same (E := fun j => j < m + 3) (fun j => by show (j < m + 2 ∨ j = m + 2) ↔ j < m + 3; omega)
  have f4 := (f3.put (i := m + 3) s3 (fun j oj d hj hoj => dst1 (m + 3) _ (by omega) s3 j oj d hj hoj)).same (E := fun j => j < m + 4) (fun j => by show (j < m + 3 ∨ j = m + 3) ↔ j < m + 4; omega)
  have e := hfr.ext f4 (fun j hj => ⟨fun _ => by omega, fun _ => hall j hj⟩)
  rw [e, v0, v1, v3, hoc]
  exact hfin u b W hW (hO (hall m (by omega))) ((hB (hall (m + 1) (by omega))).2.1 (hall (m + 2) (by omega)))
end
end Go.Proofs.YtgmdpppljkmabaaGreat
namespace Go.Proofs.YtgmdpppljkmabaaGreat
open Go.RowKit
theorem szNet_ids {n : Net} (h : szNet n ≤ 1048576) : n.ids.length ≤ 17592186044416 := by unfold szNet at h; omega
end Go.Proofs.YtgmdpppljkmabaaGreat
namespace Go.Proofs.YtgmdpppljkmabaaGreat
open Go.RowKit
set_option maxHeartbeats 2000000 in
theorem indexI_any (v : Value) (xs : List Int) (x : Int) (w : World) (h : IntS w v xs) :
  Calls Tryz.prog 201 #[v, .int .i64 x] w fun e w' => ∃ i : Int, e = .returned (.int .i64 i) ∧ decide (0 ≤ i) = hasB xs x ∧ w = w' := by
 obtain ⟨A, c, rfl, hlc, hm, hA⟩ := h
 unfold maxLen at hm
 have HA := Lib.hid hA
 clear hA
 go_enter Tryz.func201, Tryz.ntmps201
 go_wp2
 go_loop [8] (fun i => ∃ k : Nat, k ≤ xs.length ∧ i = .int .i64 k ∧ x ∉ xs.take k) (fun i => xs.length - (intOf i).toNat)
 case atStart => exact ⟨0, Nat.zero_le _, rfl, by simp⟩
 case round =>
  obtain ⟨k, hk, rfl, hno⟩ := hrel
  have Hno := Lib.hid hno
  clear hno
  by_cases hlt : k < xs.length
  ·obtain ⟨y, hy⟩ := getx xs k hlt
   obtain ⟨b, off, rfl, hcell⟩ := HA.out k y hy
   have Hy := Lib.hid hy
   clear hy
   cases hxy : (x == y)
   ·have Hxy := Lib.hid hxy
    go_wp2
    go_round
    case rel =>
     refine ⟨k + 1, by omega, by go_num, ?_⟩
     rw [take_snoc Hy.out]
     simp only [List.mem_append, List.mem_singleton, not_or]
     exact ⟨Hno.out, by simpa using Hxy.out⟩
    case measure => simp [intOf]; omega
   ·have Hxy := Lib.hid hxy
    go_wp2
    go_ret
    refine ⟨_, rfl, ?_, rfl⟩
    have e : x = y := by simpa using Hxy.out
    rw [e]
    unfold hasB
    simp [List.mem_of_getElem? Hy.out]
  ·go_wp2
   go_ret
   refine ⟨_, rfl, ?_, rfl⟩
   have := Hno.out
   rw [take_all xs hlt] at this
   unfold hasB
   simpa using this
theorem containsI_any (v : Value) (xs : List Int) (x : Int) (w : World) (h : IntS w v xs) :
  Calls Tryz.prog 145 #[v, .int .i64 x] w fun e w' => e = .returned (.bool (hasB xs x)) ∧ w = w' := by
 have H := Lib.hid h
 obtain ⟨A, c, rfl, hlc, hm, hA⟩ := h
 clear hA
 go_enter Tryz.func145, Tryz.ntmps145
 go_wp2_with fail
 refine (indexI_any _ xs x _ H.out).mono ?_
 rintro e w1 ⟨i, rfl, hi, rfl⟩
 have Hi := Lib.hid hi
 clear hi
 go_wp2
 go_ret
 exact ⟨ret_bool Hi.out, rfl⟩
def accB (n : Net) (s : Int) (ls : List Int) (l idk ink : Int) (es : List (Int × Int)) : Bool :=
 if s = 1 then decide (l ≤ 1) && !((nearB ls es).any fun x => x != 1 - l)
 else if s = 2 then decide (l ≤ 2) && !hasB (nearB ls es) l
 else if s = 3 then forI l (nearB ls es)
 else if s = 4 then decide (n.ids.length ≠ 0) && leadB idk ink ls l es
 else decide (n.ids.length ≠ 0) && evenB idk ls l es
theorem acc1_enters : ∀ args w, (callFunc 172 args).run Tryz.prog w = .ok (.enter 172 args) w := enters_of Tryz.func172 (by kernel_rfl) rfl
theorem acc1_any (x l : Int) (b : Nat) (w : World) (h0 : 0 ≤ l) (h1 : l ≤ 999999999999) (hc : w.cell? ⟨b, 0, none⟩ = some (.int .i64 l)) :
  Calls Tryz.prog 172 #[.int .i64 x, .pointer (some ⟨b, 0, none⟩)] w fun e w' => e = .returned (.bool (x != 1 - l)) ∧ w = w' := by
 go_enter Tryz.func172, Tryz.ntmps172
 go_wp2
 go_ret
 exact ⟨rfl, rfl⟩
theorem acc1_pred (l : Int) (b : Nat) (w : World) (xs : List Int) (h0 : 0 ≤ l) (h1 : l ≤ 999999999999) (hc : w.cell? ⟨b, 0, none⟩ = some (.int .i64 l)) : PredOn w 172 #[.pointer (some ⟨b, 0, none⟩)] (fun x => x != 1 - l) xs := by
 intro x _ X hX
 exact (acc1_any x l b X h0 h1 (bc hX hc)).mono fun _ _ ⟨he, hw⟩ => ⟨he, hw ▸ Below.refl _ _⟩
set_option maxRecDepth 100000 in
set_option maxHeartbeats 8000000 in
theorem accepts_any (ve vi vn vl : Value) (n : Net) (s : Int) (ls : List Int) (k : Nat) (es : List (Int × Int)) (l idk ink : Int) (w : World) (h : NetIn w ve vi vn n) (hl : IntS w vl ls) (hs1 : 1 ≤ s) (hs5 : s ≤ 5) (hes : n.ends[k]? = some es) (hle : es.length ≤ 6) (hin : ∀ e ∈ es, 0 ≤ e.1 ∧ e.1 < ls.length)
  (hlb : ∀ x ∈ l :: nearB ls es, 0 ≤ x ∧ x ≤ 999999999999) (hk : ls[k]? = some l) (hid : n.ids.length ≠ 0 → n.ids[k]? = some idk) (hinp : n.inputs[k]? = some ink) :
  Calls Tryz.prog 109 #[.agg #[ve, vi, vn], .int .i64 s, vl, .int .i64 k] w fun e w' => e = .returned (.bool (accB n s ls l idk ink es)) ∧ Below w.heap.size w w' := by
 obtain ⟨w0, hw0⟩ : ∃ w0, w0 = (w).alloc (.cells #[ve, vi, vn] 27) := ⟨_, rfl⟩
 have hb0 : Below w.heap.size w w0 := by rw [hw0]; exact ((Below.refl _ _).alloc (by simp) _)
 have H := Lib.hid (h.keep hb0)
 obtain ⟨h1, h2, h3⟩ := h.keep hb0
 obtain ⟨A, c, rfl, hlc, hm, hA⟩ := h1
 obtain ⟨A2, c2, rfl, _, hm2, _⟩ := h2
 obtain ⟨A3, c3, rfl, _, hm3, _⟩ := h3
 unfold maxLen at hm hm2 hm3
 have p00 : ∀ W, Since w0 W → W.cell? ⟨w.heap.size, 0, none⟩ = some (.slice A n.ends.length c) := have_cell (by rw [hw0]; simp)
 have p01 : ∀ W, Since w0 W → W.cell? ⟨w.heap.size, 1, none⟩ = some (.slice A2 n.ids.length c2) := have_cell (by rw [hw0]; simp)
 have p02 : ∀ W, Since w0 W → W.cell? ⟨w.heap.size, 2, none⟩ = some (.slice A3 n.inputs.length c3) := have_cell (by rw [hw0]; simp)
 have Hb0 := Lib.hid hb0
 have Hw0 := Lib.hid hw0
 have HA := Lib.hid hA
 clear hA h
 clear hb0 hw0
 have HL := Lib.hid (hl.keep Hb0.out)
 obtain ⟨_, bl, ol, cl, l', e0, rfl, hkl, hk', -, hd⟩ := lab_at HL.out (x := (k : Int)) (by omega) (by have := lt_of_get hk; omega)
 obtain rfl : k = _ := by exact Int.ofNat.inj e0
 obtain rfl : l = l' := Option.some.inj (hk.symm.trans hk')
 obtain ⟨_, _, hv, hlL, hmL, _⟩ := id hl
 cases hv
 unfold maxLen at hmL
 obtain ⟨lb0, lb1⟩ := hlb l (by simp)
 have t0 := have_cell hd
 have Hes := Lib.hid hes
 have Hin := Lib.hid hin
 have Hlb := Lib.hid hlb
 have Hk := Lib.hid hk
 have Hid' := Lib.hid hid
 have Hinp := Lib.hid hinp
 clear hd hk hk' e0 hl hes hin hlb hid hinp
 go_enter Tryz.func109, Tryz.ntmps109
 go_upto_region 1 with (fail)
 rw [← Hw0.out]
 refine wp_region_near (w0 := w0) 7 9 14 18 10 l (nearB ls es) (by kernel_rfl) (by kernel_rfl) rfl (since_refl _) rfl rfl ⟨_, _, _, rfl⟩ ⟨_, _, _, rfl⟩ ⟨_, _, _, rfl⟩ (by decide) (by simp) (by simp) ?_
 simp only [List.take_succ_cons, List.take_zero]
 iterate 7 (refine pflow_val (v := ?_) rfl ?_ ?_; rotate_left; (intro W hW; go_simp; with_reducible rfl); simp only [zA])
 refine ⟨rfl, ⟨rfl, fun W hW => ?_⟩, ?_⟩
 ·unfold GivesAny
  go_simp
  refine (near_any _ _ _ _ n ls k es W (H.out.keep hW.below) (HL.out.keep hW.below) Hes.out (by omega) Hin.out).mono ?_
  rintro e W' ⟨u, rfl, ho, hb⟩
  exact ⟨u, rfl, ho, hb⟩
 intro u b W hW ho hI
 simp only [zA]
 have hlen : (nearB ls es).length = es.length := by simp [nearB]
 have HU := Lib.hid (show ∀ X, Since W X → IntS X u (nearB ls es) from fun X hX => ho.ints.keep hX.below)
 obtain ⟨Bu, du, hu, _⟩ := id ho.ints
 rw [hlen] at hu
 have q0 := have_cell hI.cells.1
 have HW := Lib.hid hW
 have Hlen := Lib.hid hlen
 rw [hu]
 rw [hu] at HU
 have hsX : Since W W := since_refl _
 have p00 := lift_cell p00 hW
 have p01 := lift_cell p01 hW
 have p02 := lift_cell p02 hW
 unfold ptr
 clear ho hI hW hlen hu t0
 by_cases c1 : s = 1
 ·subst c1
  have hr := Lib.hid (show accB n 1 ls l idk ink es = (decide (l ≤ 1) && !((nearB ls es).any fun x => x != 1 - l)) by simp [accB])
  go_upto_region 4 with (fail)
  clear hsX
  refine wp_region_flow0 8 (Since W) (since_refl _) ?_
  simp only [List.take_succ_cons, List.take_zero, List.drop_succ_cons, List.drop_zero]
  refine flow_val (v := ?_) rfl ?_ ?_; rotate_left; (intro W hW; go_simp; with_reducible rfl)
  simp only [zA]
  refine flow_val (v := ?_) rfl ?_ ?_; rotate_left; (intro W hW; go_simp; with_reducible rfl)
  simp only [zA]
  refine flow_val (v := ?_) rfl ?_ ?_; rotate_left; (intro W hW; go_simp; with_reducible rfl)
  simp only [zA]
  refine flow_gval (v := ?_) rfl rfl ?_ ?_; rotate_left; (intro hb; intro W hW; go_simp; with_reducible rfl)
  simp only [zA]
  refine flow_gval (v := ?_) rfl rfl ?_ ?_; rotate_left; (intro hb; intro W hW; go_simp; with_reducible rfl)
  simp only [zA]
  refine flow_gop (v := ?_) rfl rfl ?_ ?_; rotate_left; (intro hb; intro W hW; unfold Gives; go_simp; (with_reducible refine (containsFunc_any _ (nearB ls es) _ _ (fun x => x != 1 - l) W (HU.out W hW) acc1_enters (acc1_pred l b W (nearB ls es) lb0 lb1 (q0 W hW))).mono ?_); rintro e W' ⟨rfl, hb3⟩; first | (refine ⟨?_, Since.trans hW hb3⟩; with_reducible rfl) | (subst hb3; refine ⟨?_, hW⟩; with_reducible rfl))
  simp only [zA]
  refine flow_gval (v := ?_) rfl rfl ?_ ?_; rotate_left; (intro hb; intro W hW; go_simp; with_reducible rfl)
  simp only [zA]
  first | refine flow_and rfl rfl ?_ | (refine flow_val (v := ?_) rfl ?_ ?_; rotate_left; (intro W hW; go_simp; with_reducible rfl))
  simp only [zA]
  intro W5 hW5
  have HW5 := Lib.hid hW5
  clear hW5
  go_wp2
  go_ret
  exact ⟨ret_bool hr.out.symm, Since.after Hb0.out (HW.out.after HW5.out)⟩
 ·have c1' : (s == 1) = false := by simpa using c1
  by_cases c2 : s = 2
  ·subst c2
   have hr := Lib.hid (show accB n 2 ls l idk ink es = (decide (l ≤ 2) && !hasB (nearB ls es) l) by simp [accB])
   clear c1 c1'
   go_upto_region 6 with (fail)
   clear hsX
   refine wp_region_flow0 9 (Since W) (since_refl _) ?_
   simp only [List.take_succ_cons, List.take_zero, List.drop_succ_cons, List.drop_zero]
   refine flow_val (v := ?_) rfl ?_ ?_; rotate_left; (intro W hW; go_simp; with_reducible rfl)
   simp only [zA]
   refine flow_val (v := ?_) rfl ?_ ?_; rotate_left; (intro W hW; go_simp; with_reducible rfl)
   simp only [zA]
   refine flow_val (v := ?_) rfl ?_ ?_; rotate_left; (intro W hW; go_simp; with_reducible rfl)
   simp only [zA]
   refine flow_gval (v := ?_) rfl rfl ?_ ?_; rotate_left; (intro hb; intro W hW; go_simp; with_reducible rfl)
   simp only [zA]
   refine flow_gval (v := ?_) rfl rfl ?_ ?_; rotate_left; (intro hb; intro W hW; go_simp; with_reducible rfl)
   simp only [zA]
   refine flow_gop (v := ?_) rfl rfl ?_ ?_; rotate_left; (intro hb; intro W hW; unfold Gives; go_simp; (with_reducible refine (containsI_any _ (nearB ls es) _ W (HU.out W hW)).mono ?_); rintro e W' ⟨rfl, hb3⟩; first | (refine ⟨?_, Since.trans hW hb3⟩; with_reducible rfl) | (subst hb3; refine ⟨?_, hW⟩; with_reducible rfl))
   simp only [zA]
   refine flow_gval (v := ?_) rfl rfl ?_ ?_; rotate_left; (intro hb; intro W hW; go_simp; with_reducible rfl)
   simp only [zA]
   first | refine flow_and rfl rfl ?_ | (refine flow_val (v := ?_) rfl ?_ ?_; rotate_left; (intro W hW; go_simp; with_reducible rfl))
   simp only [zA]
   refine flow_val (v := ?_) rfl ?_ ?_; rotate_left; (intro W hW; go_simp; with_reducible rfl)
   simp only [zA]
   intro W5 hW5
   have HW5 := Lib.hid hW5
   clear hW5
   go_wp2
   go_ret
   exact ⟨ret_bool hr.out.symm, Since.after Hb0.out (HW.out.after HW5.out)⟩
  ·have c2' : (s == 2) = false := by simpa using c2
   by_cases c3 : s = 3
   ·subst c3
    have hr := Lib.hid (show accB n 3 ls l idk ink es = forI l (nearB ls es) by simp [accB])
    clear c1 c1' c2 c2'
    go_wp2_with fail
    refine (acceptsForest_any l _ (nearB ls es) W lb0 lb1 (HU.out W (since_refl _)) (by rw [Hlen.out]; omega)).mono ?_
    rintro e W5 ⟨rfl, hb5⟩
    have HW5 := Lib.hid hb5
    clear hb5
    go_wp2
    go_ret
    exact ⟨ret_bool hr.out.symm, Since.after Hb0.out (HW.out.after HW5.out)⟩
   ·have c3' : (s == 3) = false := by simpa using c3
    by_cases c4 : s = 4
    ·subst c4
     have hr := Lib.hid (show accB n 4 ls l idk ink es = (decide (n.ids.length ≠ 0) && leadB idk ink ls l es) by simp [accB])
     clear c1 c1' c2 c2' c3 c3'
     go_wp2_with fail
     refine (acceptsLeader_any _ _ _ _ n ls k es l idk ink W (H.out.keep HW.out.below) (HL.out.keep HW.out.below) Hes.out hle Hin.out Hlb.out Hk.out Hid'.out Hinp.out).mono ?_
     rintro e W5 ⟨rfl, hb5⟩
     have HW5 := Lib.hid hb5
     clear hb5
     go_wp2
     go_ret
     exact ⟨ret_bool (by rw [hr.out]; first | rfl | simp), Since.after Hb0.out (HW.out.after HW5.out)⟩
    ·have c4' : (s == 4) = false := by simpa using c4
     have hr := Lib.hid (show accB n s ls l idk ink es = (decide (n.ids.length ≠ 0) && evenB idk ls l es) by simp [accB, c1, c2, c3, c4])
     clear c1 c2 c3 c4
     go_wp2_with fail
     refine (acceptsEven_any _ _ _ _ n ls k es l idk W (H.out.keep HW.out.below) (HL.out.keep HW.out.below) Hes.out hle Hin.out Hlb.out Hk.out Hid'.out).mono ?_
     rintro e W5 ⟨rfl, hb5⟩
     have HW5 := Lib.hid hb5
     clear hb5
     go_wp2
     go_ret
     exact ⟨ret_bool (by rw [hr.out]; first | rfl | simp), Since.after Hb0.out (HW.out.after HW5.out)⟩
end Go.Proofs.YtgmdpppljkmabaaGreat
namespace Go.Proofs.YtgmdpppljkmabaaGreat
open Go.RowKit
def allB' (ls : List Int) (lo hi : Int) : Bool := ls.all (inB lo hi)
theorem allWithin_b' (v : Value) (xs : List Int) (lo hi : Int) (w : World) (h : IntS w v xs) :
  Calls Tryz.prog 99 #[v, .int .i64 lo, .int .i64 hi] w fun e w' => e = .returned (.bool (allB' xs lo hi)) ∧ Below w.heap.size w w' := allWithin_any v xs lo hi w h
def labOk (n : Net) (s : Int) (ls : List Int) : Bool := netOk n && inB 1 5 s && ((ls.length : Int) == (n.ends.length : Int)) && allB' ls 0 999999999999
set_option maxHeartbeats 4000000 in
theorem labelsOk_any (ve vi vn vl : Value) (n : Net) (s : Int) (ls : List Int) (w : World) (h : NetIn w ve vi vn n) (hl : IntS w vl ls) (hsz : szNet n ≤ 1048576) :
  Calls Tryz.prog 60 #[.agg #[ve, vi, vn], .int .i64 s, vl] w fun e w' => e = .returned (.bool (labOk n s ls)) ∧ Below w.heap.size w w' := by
 obtain ⟨w0, hw0⟩ : ∃ w0, w0 = (w).alloc (.cells #[ve, vi, vn] 27) := ⟨_, rfl⟩
 have hb0 : Below w.heap.size w w0 := by rw [hw0]; exact ((Below.refl _ _).alloc (by simp) _)
 have H := Lib.hid (h.keep hb0)
 obtain ⟨h1, h2, h3⟩ := h.keep hb0
 obtain ⟨A, c, rfl, hlc, hm, hA⟩ := h1
 obtain ⟨A2, c2, rfl, _, hm2, _⟩ := h2
 obtain ⟨A3, c3, rfl, _, hm3, _⟩ := h3
 unfold maxLen at hm hm2 hm3
 have p00 : ∀ W, Since w0 W → W.cell? ⟨w.heap.size, 0, none⟩ = some (.slice A n.ends.length c) := have_cell (by rw [hw0]; simp)
 have p01 : ∀ W, Since w0 W → W.cell? ⟨w.heap.size, 1, none⟩ = some (.slice A2 n.ids.length c2) := have_cell (by rw [hw0]; simp)
 have p02 : ∀ W, Since w0 W → W.cell? ⟨w.heap.size, 2, none⟩ = some (.slice A3 n.inputs.length c3) := have_cell (by rw [hw0]; simp)
 have Hb0 := Lib.hid hb0
 have Hw0 := Lib.hid hw0
 have HA := Lib.hid hA
 clear hA h
 clear hb0 hw0
 have HL := Lib.hid (hl.keep Hb0.out)
 obtain ⟨AL, cL, rfl, hlL, hmL, _⟩ := hl
 unfold maxLen at hmL
 go_enter Tryz.func60, Tryz.ntmps60
 go_upto_region 1 with (fail)
 rw [← Hw0.out]
 refine wp_region_flow0 19 (Since w0) (since_refl _) ?_
 simp only [List.take_succ_cons, List.take_zero, List.drop_succ_cons, List.drop_zero]
 refine flow_val (v := ?_) rfl ?_ ?_; rotate_left; (intro W hW; go_simp; with_reducible rfl)
 simp only [zA]
 refine flow_op ?_ rfl ?_ ?_; rotate_left; (intro W hW; unfold Gives; go_simp; (with_reducible refine (isNetwork_any _ _ _ n W (H.out.keep hW.below) (szNet_ids hsz)).mono ?_); rintro e W' ⟨rfl, hb3⟩; first | (refine ⟨?_, Since.trans hW hb3⟩; with_reducible rfl) | (subst hb3; refine ⟨?_, hW⟩; with_reducible rfl))
 simp only [zA]
 refine flow_val (v := ?_) rfl ?_ ?_; rotate_left; (intro W hW; go_simp; with_reducible rfl)
 simp only [zA]
 refine flow_gval (v := ?_) rfl rfl ?_ ?_; rotate_left; (intro hb; intro W hW; go_simp; with_reducible rfl)
 simp only [zA]
 refine flow_gop (v := ?_) rfl rfl ?_ ?_; rotate_left; (intro hb; intro W hW; unfold Gives; go_simp; (with_reducible refine (isScheme_b _ W).mono ?_); rintro e W' ⟨rfl, hb3⟩; first | (refine ⟨?_, Since.trans hW hb3⟩; with_reducible rfl) | (subst hb3; refine ⟨?_, hW⟩; with_reducible rfl))
 simp only [zA]
 first | refine flow_and rfl rfl ?_ | (refine flow_val (v := ?_) rfl ?_ ?_; rotate_left; (intro W hW; go_simp; with_reducible rfl))
 simp only [zA]
 refine flow_val (v := ?_) rfl ?_ ?_; rotate_left; (intro W hW; go_simp; with_reducible rfl)
 simp only [zA]
 refine flow_gval (v := ?_) rfl rfl ?_ ?_; rotate_left; (intro hb; intro W hW; go_simp; with_reducible rfl)
 simp only [zA]
 refine flow_gval (v := ?_) rfl rfl ?_ ?_; rotate_left; (intro hb; intro W hW; go_simp; with_reducible rfl)
 simp only [zA]
 refine flow_gval (v := ?_) rfl rfl ?_ ?_; rotate_left; (intro hb; intro W hW; go_simp; with_reducible rfl)
 simp only [zA]
 refine flow_gval (v := ?_) rfl rfl ?_ ?_; rotate_left; (intro hb; intro W hW; go_simp; with_reducible rfl)
 simp only [zA]
 refine flow_gval (v := ?_) rfl rfl ?_ ?_; rotate_left; (intro hb; intro W hW; go_simp; with_reducible rfl)
 simp only [zA]
 refine flow_gval (v := ?_) rfl rfl ?_ ?_; rotate_left; (intro hb; intro W hW; go_simp; with_reducible rfl)
 simp only [zA]
 first | refine flow_and rfl rfl ?_ | (refine flow_val (v := ?_) rfl ?_ ?_; rotate_left; (intro W hW; go_simp; with_reducible rfl))
 simp only [zA]
 refine flow_val (v := ?_) rfl ?_ ?_; rotate_left; (intro W hW; go_simp; with_reducible rfl)
 simp only [zA]
 refine flow_gval (v := ?_) rfl rfl ?_ ?_; rotate_left; (intro hb; intro W hW; go_simp; with_reducible rfl)
 simp only [zA]
 refine flow_gop (v := ?_) rfl rfl ?_ ?_; rotate_left; (intro hb; intro W hW; unfold Gives; go_simp; (with_reducible refine (allWithin_b' _ ls _ _ W (HL.out.keep hW.below)).mono ?_); rintro e W' ⟨rfl, hb3⟩; first | (refine ⟨?_, Since.trans hW hb3⟩; with_reducible rfl) | (subst hb3; refine ⟨?_, hW⟩; with_reducible rfl))
 simp only [zA]
 first | refine flow_and rfl rfl ?_ | (refine flow_val (v := ?_) rfl ?_ ?_; rotate_left; (intro W hW; go_simp; with_reducible rfl))
 simp only [zA]
 refine flow_val (v := ?_) rfl ?_ ?_; rotate_left; (intro W hW; go_simp; with_reducible rfl)
 simp only [zA]
 intro W hW
 have HW := Lib.hid hW
 clear hW
 go_wp2
 go_ret
 exact ⟨rfl, Since.after Hb0.out HW.out⟩
end Go.Proofs.YtgmdpppljkmabaaGreat
namespace Go.Proofs.YtgmdpppljkmabaaGreat
open Go.RowKit
def accAt (n : Net) (s : Int) (ls : List Int) (k : Nat) : Bool := accB n s ls (ls.getD k 0) (n.ids.getD k 0) (n.inputs.getD k 0) (n.ends.getD k [])
theorem acc_at {n : Net} {s : Int} {ls : List Int} (h : labOk n s ls = true) {k : Nat} (hk : k < n.ends.length) :
  ∃ es l idk ink, 1 ≤ s ∧ s ≤ 5 ∧ n.ends[k]? = some es ∧ es.length ≤ 6 ∧ (∀ e ∈ es, 0 ≤ e.1 ∧ e.1 < ls.length) ∧ (∀ x ∈ l :: nearB ls es, 0 ≤ x ∧ x ≤ 999999999999) ∧ ls[k]? = some l ∧ (n.ids.length ≠ 0 → n.ids[k]? = some idk) ∧ n.inputs[k]? = some ink ∧ accAt n s ls k = accB n s ls l idk ink es := by
 unfold labOk at h
 simp only [Bool.and_eq_true, beq_iff_eq] at h
 obtain ⟨⟨⟨h1, h2⟩, h3⟩, h4⟩ := h
 have hs := inB_iff.1 h2
 have hl : ls.length = n.ends.length := by omega
 obtain ⟨es, hes⟩ := getx n.ends k hk
 obtain ⟨l, hl'⟩ := getx ls k (by omega)
 obtain ⟨r1, r2⟩ := netOk_row h1 hes
 unfold allB' at h4
 rw [List.all_eq_true] at h4
 have ha : ∀ x ∈ ls, 0 ≤ x ∧ x ≤ 999999999999 := fun x hx => inB_iff.1 (h4 x hx)
 unfold netOk at h1
 simp only [Bool.and_eq_true] at h1
 obtain ⟨⟨⟨-, i1⟩, i2⟩, -⟩ := h1
 unfold inputsB at i2
 simp only [Bool.and_eq_true, beq_iff_eq] at i2
 obtain ⟨ink, hink⟩ := getx n.inputs k (by omega)
 have hids : n.ids.length ≠ 0 → n.ids[k]? = some (n.ids.getD k 0) := fun h0 => by
  unfold idsB at i1
  simp only [Bool.or_eq_true, Bool.and_eq_true, beq_iff_eq] at i1
  have : n.ids.length = n.ends.length := by
   rcases i1 with e | ⟨e, -⟩
   ·exact absurd (by simpa using e) h0
   ·omega
  have hk' : k < n.ids.length := by omega
  rw [List.getD_eq_getElem?_getD, List.getElem?_eq_getElem hk']; rfl
 exact ⟨es, l, _, ink, hs.1, hs.2, hes, r1, fun e he => by rw [hl]; exact r2 e he, fun x hx => ha x (seen_in hl' (fun e he => by rw [hl]; exact r2 e he) hx), hl', hids, hink, by simp [accAt, hes, hl', hink]⟩
theorem labOk_net {n : Net} {s : Int} {ls : List Int} (h : labOk n s ls = true) : netOk n = true ∧ ls.length = n.ends.length ∧ n.ends.length ≤ 40 := by
 unfold labOk at h
 simp only [Bool.and_eq_true, beq_iff_eq] at h
 exact ⟨h.1.1.1, by have := h.1.2; omega, (netOk_len h.1.1.1).2⟩
end Go.Proofs.YtgmdpppljkmabaaGreat
namespace Go.Proofs.YtgmdpppljkmabaaGreat
open Go.RowKit
def rejL (n : Net) (s : Int) (ls : List Int) : List Int := keptB (fun v => accAt n s ls v.toNat) (upto ls.length)
theorem rej1_ent : ∀ args w, (callFunc 135 args).run Tryz.prog w = .ok (.enter 135 args) w := enters_of Tryz.func135 (by kernel_rfl) rfl
set_option maxHeartbeats 2000000 in
theorem rejc_any (ve vi vn vl : Value) (n : Net) (s : Int) (ls : List Int) (k b : Nat) (w : World) (h : NetIn w ve vi vn n) (hl : IntS w vl ls) (hok : labOk n s ls = true) (hk : k < n.ends.length)
  (c0 : w.cell? ⟨b, 0, none⟩ = some ve) (c1 : w.cell? ⟨b, 1, none⟩ = some vi) (c2 : w.cell? ⟨b, 2, none⟩ = some vn) (c3 : w.cell? ⟨b + 1, 0, none⟩ = some (.int .i64 s)) (c4 : w.cell? ⟨b + 1 + 1, 0, none⟩ = some vl) :
  Calls Tryz.prog 135 #[.int .i64 k, .pointer (some ⟨b, 0, none⟩), .pointer (some ⟨b + 1, 0, none⟩), .pointer (some ⟨b + 1 + 1, 0, none⟩)] w fun e w' => e = .returned (.bool (accAt n s ls k)) ∧ Below w.heap.size w w' := by
 obtain ⟨es, l, idk, ink, a1, a2, a3, a4, a5, a6, a7, a8, a9, a10⟩ := acc_at hok hk
 have hc := accepts_any ve vi vn vl n s ls k es l idk ink w h hl a1 a2 a3 a4 a5 a6 a7 a8 a9
 rw [← a10] at hc
 have Hc := Lib.hid hc
 obtain ⟨AL, cL, rfl, hlL, hmL, _⟩ := hl
 obtain ⟨⟨A, c, rfl, hlc, hm, _⟩, ⟨A2, c2', rfl, _, hm2', _⟩, ⟨A3, c3', rfl, _, hm3', _⟩⟩ := h
 clear hc hok a3 a5 a6 a7 a8 a9 a10
 go_enter Tryz.func135, Tryz.ntmps135
 go_wp2_with fail
 refine Hc.out.mono ?_
 rintro e w2 ⟨rfl, hb⟩
 have Hb := Lib.hid hb
 clear hb
 go_wp2
 go_ret
 exact ⟨rfl, Hb.out⟩
set_option maxRecDepth 100000 in
set_option maxHeartbeats 8000000 in
theorem rejecting_any (ve vi vn vl : Value) (n : Net) (s : Int) (ls : List Int) (w : World) (h : NetIn w ve vi vn n) (hl : IntS w vl ls) (hok : labOk n s ls = true) :
  Calls Tryz.prog 61 #[.agg #[ve, vi, vn], .int .i64 s, vl] w fun e w' => ∃ u, e = .returned u ∧ Own w' w.heap.size u (rejL n s ls) ∧ Below w.heap.size w w' := by
 have HL0 := Lib.hid hl
 obtain ⟨AL, cL, rfl, hlL, hmL, _⟩ := hl
 unfold maxLen at hmL
 obtain ⟨w0, hw0⟩ : ∃ w0, w0 = (((w).alloc (.cells #[ve, vi, vn] 27)).alloc (.cells #[.int .i64 s] 3)).alloc (.cells #[.slice AL ls.length cL] 25) := ⟨_, rfl⟩
 have hb0 : Below w.heap.size w w0 := by rw [hw0]; exact ((((Below.refl _ _).alloc (by simp <;> omega) _).alloc (by simp <;> omega) _).alloc (by simp <;> omega) _)
 have H := Lib.hid (h.keep hb0)
 obtain ⟨h1, h2, h3⟩ := h.keep hb0
 obtain ⟨A, c, rfl, hlc, hm, hA⟩ := h1
 obtain ⟨A2, c2, rfl, _, hm2, _⟩ := h2
 obtain ⟨A3, c3, rfl, _, hm3, _⟩ := h3
 unfold maxLen at hm hm2 hm3
 have p00 : ∀ W, Since w0 W → W.cell? ⟨w.heap.size, 0, none⟩ = some (.slice A n.ends.length c) := have_cell (by rw [hw0]; simp [go_sem])
 have p01 : ∀ W, Since w0 W → W.cell? ⟨w.heap.size, 1, none⟩ = some (.slice A2 n.ids.length c2) := have_cell (by rw [hw0]; simp [go_sem])
 have p02 : ∀ W, Since w0 W → W.cell? ⟨w.heap.size, 2, none⟩ = some (.slice A3 n.inputs.length c3) := have_cell (by rw [hw0]; simp [go_sem])
 have p10 : ∀ W, Since w0 W → W.cell? ⟨w.heap.size + 1, 0, none⟩ = some (.int .i64 s) := have_cell (by rw [hw0]; simp [go_sem])
 have p20 : ∀ W, Since w0 W → W.cell? ⟨w.heap.size + 1 + 1, 0, none⟩ = some (.slice AL ls.length cL) := have_cell (by rw [hw0]; simp [go_sem])
 have Hb0 := Lib.hid hb0
 have Hw0 := Lib.hid hw0
 have HA := Lib.hid hA
 clear hA h
 clear hb0 hw0
 have HL := Lib.hid (HL0.out.keep Hb0.out)
 have hle : n.ends.length ≤ 1000000 := by have := labOk_net hok; omega
 have Hln := Lib.hid (labOk_net hok).2.1
 have HP : Hid (PredOn w0 135 #[.pointer (some ⟨w.heap.size, 0, none⟩), .pointer (some ⟨w.heap.size + 1, 0, none⟩), .pointer (some ⟨w.heap.size + 1 + 1, 0, none⟩)] (fun v => accAt n s ls v.toNat) (upto n.ends.length)) := by
  intro x hx X hX
  obtain ⟨k, hk, rfl⟩ := List.mem_map.1 hx
  have hk' := List.mem_range.1 hk
  exact rejc_any (.slice A n.ends.length c) (.slice A2 n.ids.length c2) (.slice A3 n.inputs.length c3) (.slice AL ls.length cL) n s ls k w.heap.size X (H.out.keep hX) (HL.out.keep hX) hok hk' (p00 X hX) (p01 X hX) (p02 X hX) (p10 X hX) (p20 X hX)
 have hs0 : Since w0 w0 := since_refl _
 clear hok
 go_enter Tryz.func61, Tryz.ntmps61
 go_upto_region 1 with (fail)
 rw [← Hw0.out]
 go_wp2_with fail
 refine (numbersTo_any n.ends.length hle w0).mono ?_
 rintro e W3 ⟨u3, rfl, ho3, hb3⟩
 have Ho3 := Lib.hid ho3
 have Hs3 : Hid (Since w0 W3) := hb3
 clear ho3 hb3 hs0
 go_wp2_with fail
 refine (deleteFunc_any _ (upto n.ends.length) _ _ (fun v => accAt n s ls v.toNat) _ w0 Ho3.out Hs3.out (by rw [upto_len]; omega) rej1_ent HP.out).mono ?_
 rintro e W4 ⟨u4, rfl, ho4, hs4⟩
 have Ho4 := Lib.hid ho4
 have Hs4 := Lib.hid hs4
 clear ho4 hs4
 go_wp2
 go_ret
 exact ⟨_, rfl, by unfold rejL; rw [Hln.out]; exact Ho4.out.mono Hb0.out.size, Since.after Hb0.out Hs4.out⟩
def fnExactRejectingNodes_r1 (n : Net) (s : Int) (ls : List Int) : Bool := labOk n s ls
def fnExactRejectingNodes_d (n : Net) (s : Int) (ls : List Int) : List Int := if labOk n s ls then rejL n s ls else []
set_option maxHeartbeats 4000000 in
theorem fnExactRejectingNodes_impl (ve vi vn : Value) (n : Net) (s : Int) (vl : Value) (ls : List Int) (w : World) (h : NetIn w ve vi vn n) (_ : -9223372036854775808 ≤ s ∧ s ≤ 9223372036854775807) (hl : IntS w vl ls) (hsz : szNet n ≤ 1048576) (hbig : ls.length ≤ 1048576) :
  Calls Tryz.prog 15 #[.agg #[ve, vi, vn], .int .i64 s, vl] w fun e w' => ∃ u, e = .returned (.tuple #[u, .bool (fnExactRejectingNodes_r1 n s ls)]) ∧ Own w' w.heap.size u (fnExactRejectingNodes_d n s ls) ∧ Below w.heap.size w w' := by
 obtain ⟨w0, hw0⟩ : ∃ w0, w0 = (w).alloc (.cells #[ve, vi, vn] 27) := ⟨_, rfl⟩
 have hb0 : Below w.heap.size w w0 := by rw [hw0]; exact ((Below.refl _ _).alloc (by simp) _)
 have H := Lib.hid (h.keep hb0)
 obtain ⟨h1, h2, h3⟩ := h.keep hb0
 obtain ⟨A, c, rfl, hlc, hm, hA⟩ := h1
 obtain ⟨A2, c2, rfl, _, hm2, _⟩ := h2
 obtain ⟨A3, c3, rfl, _, hm3, _⟩ := h3
 unfold maxLen at hm hm2 hm3
 have p00 : ∀ W, Since w0 W → W.cell? ⟨w.heap.size, 0, none⟩ = some (.slice A n.ends.length c) := have_cell (by rw [hw0]; simp)
 have p01 : ∀ W, Since w0 W → W.cell? ⟨w.heap.size, 1, none⟩ = some (.slice A2 n.ids.length c2) := have_cell (by rw [hw0]; simp)
 have p02 : ∀ W, Since w0 W → W.cell? ⟨w.heap.size, 2, none⟩ = some (.slice A3 n.inputs.length c3) := have_cell (by rw [hw0]; simp)
 have Hb0 := Lib.hid hb0
 have Hw0 := Lib.hid hw0
 have HA := Lib.hid hA
 clear hA h
 clear hb0 hw0
 have HL := Lib.hid (hl.keep Hb0.out)
 obtain ⟨AL, cL, rfl, hlL, hmL, _⟩ := hl
 unfold maxLen at hmL
 have hs0 : Since w0 w0 := since_refl _
 cases hok : labOk n s ls
 ·have Hok := Lib.hid hok
  clear hok
  go_enter Tryz.func15, Tryz.ntmps15
  go_upto_region 1 with (fail)
  rw [← Hw0.out]
  go_wp2_with fail
  refine (labelsOk_any _ _ _ _ n s ls _ H.out HL.out hsz).mono ?_
  rw [Hok.out]
  rintro e W1 ⟨rfl, hb1⟩
  have Hs1 : Hid (Since w0 W1) := hb1
  clear hb1 hs0
  go_wp2
  go_ret2
  exact ⟨_, congrArg (fun b => Ending.returned (.tuple #[_, .bool b])) (show false = fnExactRejectingNodes_r1 n s ls from Hok.out.symm), by rw [show fnExactRejectingNodes_d n s ls = [] by simp [fnExactRejectingNodes_d, Hok.out]]; exact own_nil _ _, Since.after Hb0.out Hs1.out⟩
 ·have Hok := Lib.hid hok
  clear hok
  go_enter Tryz.func15, Tryz.ntmps15
  go_upto_region 1 with (fail)
  rw [← Hw0.out]
  go_wp2_with fail
  refine (labelsOk_any _ _ _ _ n s ls _ H.out HL.out hsz).mono ?_
  rw [Hok.out]
  rintro e W1 ⟨rfl, hb1⟩
  have hs1 : Since w0 W1 := hb1
  clear hb1 hs0
  go_wp2_with fail
  refine (rejecting_any _ _ _ _ n s ls _ (H.out.keep hs1.below) (HL.out.keep hs1.below) Hok.out).mono ?_
  rintro e W2 ⟨u, rfl, ho, hb⟩
  have Ho := Lib.hid ho
  have Hs2 := Lib.hid (hs1.trans hb)
  have Hsz := Lib.hid (Since.below hs1).size
  clear ho hb hs1
  go_wp2
  go_ret2
  exact ⟨_, congrArg (fun b => Ending.returned (.tuple #[_, .bool b])) (show true = fnExactRejectingNodes_r1 n s ls from Hok.out.symm), by rw [show fnExactRejectingNodes_d n s ls = rejL n s ls by simp [fnExactRejectingNodes_d, Hok.out]]; exact Ho.out.mono (Nat.le_trans Hb0.out.size Hsz.out), Since.after Hb0.out Hs2.out⟩
end Go.Proofs.YtgmdpppljkmabaaGreat
namespace Go.Proofs.YtgmdpppljkmabaaGreat
open Go.RowKit
set_option maxHeartbeats 4000000 in
theorem atHidden_any (ve vi vn vl : Value) (n : Net) (ls : List Int) (v i x j : Int) (w : World) (h : NetIn w ve vi vn n) (hl : IntS w vl ls) (hok : netOk n = true) (hll : ls.length = n.ends.length) (hp : hasPortB n.ends v i = true) (hq : hasPortB n.ends x j = true) :
  Calls Tryz.prog 56 #[.agg #[ve, vi, vn], vl, .int .i64 v, .int .i64 i, .int .i64 x, .int .i64 j] w fun e w' => e = .returned (.bool (hidB n.ends ls (v, i) (x, j))) ∧ Below w.heap.size w w' := by
 obtain ⟨w0, hw0⟩ : ∃ w0, w0 = (w).alloc (.cells #[ve, vi, vn] 27) := ⟨_, rfl⟩
 have hb0 : Below w.heap.size w w0 := by rw [hw0]; exact ((Below.refl _ _).alloc (by simp) _)
 have H := Lib.hid (h.keep hb0)
 obtain ⟨h1, h2, h3⟩ := h.keep hb0
 obtain ⟨A, c, rfl, hlc, hm, hA⟩ := h1
 obtain ⟨A2, c2, rfl, _, hm2, _⟩ := h2
 obtain ⟨A3, c3, rfl, _, hm3, _⟩ := h3
 unfold maxLen at hm hm2 hm3
 have p00 : ∀ W, Since w0 W → W.cell? ⟨w.heap.size, 0, none⟩ = some (.slice A n.ends.length c) := have_cell (by rw [hw0]; simp)
 have p01 : ∀ W, Since w0 W → W.cell? ⟨w.heap.size, 1, none⟩ = some (.slice A2 n.ids.length c2) := have_cell (by rw [hw0]; simp)
 have p02 : ∀ W, Since w0 W → W.cell? ⟨w.heap.size, 2, none⟩ = some (.slice A3 n.inputs.length c3) := have_cell (by rw [hw0]; simp)
 have Hb0 := Lib.hid hb0
 have Hw0 := Lib.hid hw0
 have HA := Lib.hid hA
 clear hA h
 clear hb0 hw0
 have Hp := Lib.hid hp
 have Hq := Lib.hid hq
 have hl0 := hl.keep Hb0.out
 obtain ⟨n1, n2⟩ := hasPort_lt (netOk_end hok hp).1
 obtain ⟨n3, n4⟩ := hasPort_lt (netOk_end hok hq).1
 obtain ⟨k1, j1, b, off, c', b1, off1, z1, es1, y1, y2, rfl, rfl, hA, hk1, -, hj1, -, hat1, hz1, hz1', hc1, hc2, hc3⟩ := port_at H.out.es hp
 cases hA
 obtain ⟨k2, j2, b', off', c', b2, off2, z2, es2, y3, y4, rfl, rfl, hA, hk2, -, hj2, -, hat2, hz2, hz2', hc4, hc5, hc6⟩ := port_at H.out.es hq
 cases hA
 rw [hat1] at n1 n2
 rw [hat2] at n3 n4
 simp only at n1 n2 n3 n4
 obtain ⟨m1, bl, ol, cl, g1, e1, rfl, hm1, -, hg1, hd1⟩ := lab_at hl0 (x := (k1 : Int)) (by omega) (by omega)
 obtain rfl : k1 = m1 := by omega
 obtain ⟨m2, bl', ol', cl', g2, e2, hA, hm2, -, hg2, hd2⟩ := lab_at hl0 (x := (k2 : Int)) (by omega) (by omega)
 obtain rfl : k2 = m2 := by omega
 cases hA
 obtain ⟨y1, bl', ol', cl', g3, rfl, hA, hm3, -, hg3, hd3⟩ := lab_at hl0 (x := y1) (by omega) (by omega)
 cases hA
 obtain ⟨y3, bl', ol', cl', g4, rfl, hA, hm4, -, hg4, hd4⟩ := lab_at hl0 (x := y3) (by omega) (by omega)
 cases hA
 have hr := Lib.hid (show hidB n.ends ls ((k1 : Int), (j1 : Int)) ((k2 : Int), (j2 : Int)) = (mayB n.ends ((k1 : Int), (j1 : Int)) ((k2 : Int), (j2 : Int)) && ((j1 : Int) == (j2 : Int)) && (y2 == y4) && (g1 == g2) && (g3 == g4)) by simp only [hidB, hat1, hat2, hg1, hg2, hg3, hg4])
 have r1 := have_cell hc1
 have r2 := have_cell hc2
 have r3 := have_cell hc3
 have r4 := have_cell hc4
 have r5 := have_cell hc5
 have r6 := have_cell hc6
 have t1 := have_cell hd1
 have t2 := have_cell hd2
 have t3 := have_cell hd3
 have t4 := have_cell hd4
 obtain ⟨_, _, hv, _, hmL, _⟩ := id hl0
 cases hv
 unfold maxLen at hmL
 clear hc1 hc2 hc3 hc4 hc5 hc6 hat1 hat2 hp hq hd1 hd2 hd3 hd4 hg1 hg2 hg3 hg4 hl hl0 e1 e2 hll
 go_enter Tryz.func56, Tryz.ntmps56
 go_upto_region 1 with (fail)
 rw [← Hw0.out]
 refine wp_region_two (w0 := w0) 16 13 14 22 30 83 y1 y2 y3 y4 (by kernel_rfl) (by kernel_rfl) rfl (since_refl _) ⟨_, _, _, rfl⟩ ⟨_, _, _, rfl⟩ ⟨_, _, _, rfl⟩ ⟨_, _, _, rfl⟩ (by decide) (by simp) (by simp) end_zero end_store ?_
 simp only [List.take_succ_cons, List.take_zero]
 refine pflow_val (v := ?_) rfl ?_ ?_; rotate_left; (intro W hW; go_simp; with_reducible rfl)
 simp only [zA]
 refine pflow_val (v := ?_) rfl ?_ ?_; rotate_left; (intro W hW; go_simp; with_reducible rfl)
 simp only [zA]
 refine pflow_val (v := ?_) rfl ?_ ?_; rotate_left; (intro W hW; go_simp; with_reducible rfl)
 simp only [zA]
 refine pflow_val (v := ?_) rfl ?_ ?_; rotate_left; (intro W hW; go_simp; with_reducible rfl)
 simp only [zA]
 refine pflow_val (v := ?_) rfl ?_ ?_; rotate_left; (intro W hW; go_simp; with_reducible rfl)
 simp only [zA]
 refine pflow_val (v := ?_) rfl ?_ ?_; rotate_left; (intro W hW; go_simp; with_reducible rfl)
 simp only [zA]
 refine pflow_val (v := ?_) rfl ?_ ?_; rotate_left; (intro W hW; go_simp; with_reducible rfl)
 simp only [zA]
 refine pflow_val (v := ?_) rfl ?_ ?_; rotate_left; (intro W hW; go_simp; with_reducible rfl)
 simp only [zA]
 refine pflow_val (v := ?_) rfl ?_ ?_; rotate_left; (intro W hW; go_simp; with_reducible rfl)
 simp only [zA]
 refine pflow_val (v := ?_) rfl ?_ ?_; rotate_left; (intro W hW; go_simp; with_reducible rfl)
 simp only [zA]
 refine pflow_val (v := ?_) rfl ?_ ?_; rotate_left; (intro W hW; go_simp; with_reducible rfl)
 simp only [zA]
 refine pflow_val (v := ?_) rfl ?_ ?_; rotate_left; (intro W hW; go_simp; with_reducible rfl)
 simp only [zA]
 refine pflow_val (v := ?_) rfl ?_ ?_; rotate_left; (intro W hW; go_simp; with_reducible rfl)
 simp only [zA]
 refine pflow_val (v := ?_) rfl ?_ ?_; rotate_left; (intro W hW; go_simp; with_reducible rfl)
 simp only [zA]
 refine pflow_val (v := ?_) rfl ?_ ?_; rotate_left; (intro W hW; go_simp; with_reducible rfl)
 simp only [zA]
 refine pflow_val (v := ?_) rfl ?_ ?_; rotate_left; (intro W hW; go_simp; with_reducible rfl)
 simp only [zA]
 refine ⟨rfl, rfl, ?_⟩
 intro b1' b2' W1 hW1 hE1 hE2
 simp only [zA]
 have q00 := lift_cell p00 hW1
 have q01 := lift_cell p01 hW1
 have q02 := lift_cell p02 hW1
 have s0 := have_cell hE1.cells.1
 have s1 := have_cell hE1.cells.2.1
 have s2 := have_cell hE2.cells.1
 have s3 := have_cell hE2.cells.2.1
 have t1 := lift_cell t1 hW1
 have t2 := lift_cell t2 hW1
 have t3 := lift_cell t3 hW1
 have t4 := lift_cell t4 hW1
 have HW1 := Lib.hid hW1
 clear hW1 hE1 hE2 p00 p01 p02 r1 r2 r3 r4 r5 r6
 unfold ptr
 go_upto_region 2 with (fail)
 refine wp_region_flow 43 (Since W1) (by kernel_rfl) (by kernel_rfl) (by simp) (since_drew (since_refl _)) ?_
 simp only [List.take_succ_cons, List.take_zero, List.drop_succ_cons, List.drop_zero]
 refine flow_val (v := ?_) rfl ?_ ?_; rotate_left; (intro W hW; go_simp; with_reducible rfl)
 simp only [zA]
 refine flow_val (v := ?_) rfl ?_ ?_; rotate_left; (intro W hW; go_simp; with_reducible rfl)
 simp only [zA]
 refine flow_val (v := ?_) rfl ?_ ?_; rotate_left; (intro W hW; go_simp; with_reducible rfl)
 simp only [zA]
 refine flow_val (v := ?_) rfl ?_ ?_; rotate_left; (intro W hW; go_simp; with_reducible rfl)
 simp only [zA]
 refine flow_val (v := ?_) rfl ?_ ?_; rotate_left; (intro W hW; go_simp; with_reducible rfl)
 simp only [zA]
 refine flow_op ?_ rfl ?_ ?_; rotate_left; (intro W hW; unfold Gives; go_simp; (with_reducible refine (atMay_any _ _ _ n _ _ _ _ W (H.out.keep (HW1.out.after hW).below) Hp.out Hq.out).mono ?_); rintro e W' ⟨rfl, hb3⟩; first | (refine ⟨?_, Since.trans hW hb3⟩; with_reducible rfl) | (subst hb3; refine ⟨?_, hW⟩; with_reducible rfl))
 simp only [zA]
 refine flow_val (v := ?_) rfl ?_ ?_; rotate_left; (intro W hW; go_simp; with_reducible rfl)
 simp only [zA]
 refine flow_gval (v := ?_) rfl rfl ?_ ?_; rotate_left; (intro hb; intro W hW; go_simp; with_reducible rfl)
 simp only [zA]
 refine flow_gval (v := ?_) rfl rfl ?_ ?_; rotate_left; (intro hb; intro W hW; go_simp; with_reducible rfl)
 simp only [zA]
 refine flow_gval (v := ?_) rfl rfl ?_ ?_; rotate_left; (intro hb; intro W hW; go_simp; with_reducible rfl)
 simp only [zA]
 first | refine flow_and rfl rfl ?_ | (refine flow_val (v := ?_) rfl ?_ ?_; rotate_left; (intro W hW; go_simp; with_reducible rfl))
 simp only [zA]
 refine flow_val (v := ?_) rfl ?_ ?_; rotate_left; (intro W hW; go_simp; with_reducible rfl)
 simp only [zA]
 refine flow_gval (v := ?_) rfl rfl ?_ ?_; rotate_left; (intro hb; intro W hW; go_simp; with_reducible rfl)
 simp only [zA]
 refine flow_gval (v := ?_) rfl rfl ?_ ?_; rotate_left; (intro hb; intro W hW; go_simp; with_reducible rfl)
 simp only [zA]
 refine flow_gval (v := ?_) rfl rfl ?_ ?_; rotate_left; (intro hb; intro W hW; go_simp; with_reducible rfl)
 simp only [zA]
 refine flow_gval (v := ?_) rfl rfl ?_ ?_; rotate_left; (intro hb; intro W hW; go_simp; with_reducible rfl)
 simp only [zA]
 refine flow_gval (v := ?_) rfl rfl ?_ ?_; rotate_left; (intro hb; intro W hW; go_simp; with_reducible rfl)
 simp only [zA]
 first | refine flow_and rfl rfl ?_ | (refine flow_val (v := ?_) rfl ?_ ?_; rotate_left; (intro W hW; go_simp; with_reducible rfl))
 simp only [zA]
 refine flow_val (v := ?_) rfl ?_ ?_; rotate_left; (intro W hW; go_simp; with_reducible rfl)
 simp only [zA]
 refine flow_gval (v := ?_) rfl rfl ?_ ?_; rotate_left; (intro hb; intro W hW; go_simp; with_reducible rfl)
 simp only [zA]
 refine flow_gval (v := ?_) rfl rfl ?_ ?_; rotate_left; (intro hb; intro W hW; go_simp; with_reducible rfl)
 simp only [zA]
 refine flow_gval (v := ?_) rfl rfl ?_ ?_; rotate_left; (intro hb; intro W hW; go_simp; with_reducible rfl)
 simp only [zA]
 refine flow_gval (v := ?_) rfl rfl ?_ ?_; rotate_left; (intro hb; intro W hW; go_simp; with_reducible rfl)
 simp only [zA]
 refine flow_gval (v := ?_) rfl rfl ?_ ?_; rotate_left; (intro hb; intro W hW; go_simp; with_reducible rfl)
 simp only [zA]
 refine flow_gval (v := ?_) rfl rfl ?_ ?_; rotate_left; (intro hb; intro W hW; go_simp; with_reducible rfl)
 simp only [zA]
 refine flow_gval (v := ?_) rfl rfl ?_ ?_; rotate_left; (intro hb; intro W hW; go_simp; with_reducible rfl)
 simp only [zA]
 refine flow_gval (v := ?_) rfl rfl ?_ ?_; rotate_left; (intro hb; intro W hW; go_simp; with_reducible rfl)
 simp only [zA]
 refine flow_gval (v := ?_) rfl rfl ?_ ?_; rotate_left; (intro hb; intro W hW; go_simp; with_reducible rfl)
 simp only [zA]
 first | refine flow_and rfl rfl ?_ | (refine flow_val (v := ?_) rfl ?_ ?_; rotate_left; (intro W hW; go_simp; with_reducible rfl))
 simp only [zA]
 refine flow_val (v := ?_) rfl ?_ ?_; rotate_left; (intro W hW; go_simp; with_reducible rfl)
 simp only [zA]
 refine flow_gval (v := ?_) rfl rfl ?_ ?_; rotate_left; (intro hb; intro W hW; go_simp; with_reducible rfl)
 simp only [zA]
 refine flow_gval (v := ?_) rfl rfl ?_ ?_; rotate_left; (intro hb; intro W hW; go_simp; with_reducible rfl)
 simp only [zA]
 refine flow_gval (v := ?_) rfl rfl ?_ ?_; rotate_left; (intro hb; intro W hW; go_simp; with_reducible rfl)
 simp only [zA]
 refine flow_gval (v := ?_) rfl rfl ?_ ?_; rotate_left; (intro hb; intro W hW; go_simp; with_reducible rfl)
 simp only [zA]
 refine flow_gval (v := ?_) rfl rfl ?_ ?_; rotate_left; (intro hb; intro W hW; go_simp; with_reducible rfl)
 simp only [zA]
 refine flow_gval (v := ?_) rfl rfl ?_ ?_; rotate_left; (intro hb; intro W hW; go_simp; with_reducible rfl)
 simp only [zA]
 refine flow_gval (v := ?_) rfl rfl ?_ ?_; rotate_left; (intro hb; intro W hW; go_simp; with_reducible rfl)
 simp only [zA]
 refine flow_gval (v := ?_) rfl rfl ?_ ?_; rotate_left; (intro hb; intro W hW; go_simp; with_reducible rfl)
 simp only [zA]
 refine flow_gval (v := ?_) rfl rfl ?_ ?_; rotate_left; (intro hb; intro W hW; go_simp; with_reducible rfl)
 simp only [zA]
 refine flow_gval (v := ?_) rfl rfl ?_ ?_; rotate_left; (intro hb; intro W hW; go_simp; with_reducible rfl)
 simp only [zA]
 refine flow_gval (v := ?_) rfl rfl ?_ ?_; rotate_left; (intro hb; intro W hW; go_simp; with_reducible rfl)
 simp only [zA]
 first | refine flow_and rfl rfl ?_ | (refine flow_val (v := ?_) rfl ?_ ?_; rotate_left; (intro W hW; go_simp; with_reducible rfl))
 simp only [zA]
 refine flow_val (v := ?_) rfl ?_ ?_; rotate_left; (intro W hW; go_simp; with_reducible rfl)
 simp only [zA]
 intro W2 hW2
 have HW := Lib.hid hW2
 clear hW2
 go_wp2
 go_ret
 exact ⟨ret_bool hr.out.symm, Since.after Hb0.out (HW1.out.after HW.out)⟩
end Go.Proofs.YtgmdpppljkmabaaGreat
