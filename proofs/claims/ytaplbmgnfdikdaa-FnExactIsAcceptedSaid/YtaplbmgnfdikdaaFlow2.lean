import Derived.Test.YtaplbmgnfdikdaaFlow
import Derived.Test.YtaplbmgnfdikdaaWords
namespace Go.Proofs.Ytaplbmgnfdikdaa
open Go Go.RowKit
section
variable {P : Program} {ops : Array Oper} {Inv : World → Prop}
theorem flow_list {Q : Exit → Act → World → Prop} {fin : Act → Prop} {rest : List Oper} (hfin : ∀ A, fin A → ∀ W, Inv W → wpList P ops Q rest A W) :
    ∀ (l : List Oper) (A : Act) (W : World), Inv W → Flow P ops Inv fin l A → wpList P ops Q (l ++ rest) A W
  | [], A, W, hI, h => hfin A h W hI
  | o :: l, A, W, hI, ⟨v, hv, h⟩ => by
    have next : ∀ W', Inv W' → wpList P ops Q (l ++ rest) (A.put o.dst v) W' := fun W' hI' => flow_list hfin l _ W' hI' h
    show wpList P ops Q (o :: (l ++ rest)) A W
    unfold wpList
    rcases hv W hI with ⟨h1, h2⟩ | ⟨h1, h2⟩
    · rw [if_pos h1]
      refine .inl ?_
      unfold Oper.wp
      unfold Gives at h2
      generalize (execOp A.eval o).run P W = r at h2 ⊢
      cases r with
      | ok nx W' =>
        cases nx with
        | value u => simp only at h2; obtain ⟨rfl, h3⟩ := h2; exact next W' h3
        | skip => simp only at h2; obtain ⟨h4, h3⟩ := h2; simp only [Oper.upon]; rw [h4]; exact next W' h3
        | enter f args =>
          simp only at h2
          simp only [Oper.upon]
          exact h2.mono fun e W'' ⟨he', h3⟩ => by subst he'; exact next W'' h3
        | _ => exact h2.elim
      | halt x W' => exact h2.elim
    · rw [if_neg (by rw [h1]; simp)]
      have := next W hI
      rw [h2] at this
      exact this
/-- a plain region, its first k operations in every world of Inv -/
theorem wp_region_flow0 {Q : Exit → Act → World → Prop} {id : Nat} {a : Act} {w : World} (k : Nat) (Inv : World → Prop) (hI : Inv w)
    (h : Flow P ops Inv (fun A => ∀ W, Inv W → wpList P ops Q (ops.toList.drop k) A W) (ops.toList.take k) a) : (Code.region id ops false).wp P Q a w := by
  refine wp_region_list ?_
  have := flow_list (P := P) (ops := ops) (Q := Q) (rest := ops.toList.drop k) (fun A h => h) _ a w hI h
  rwa [List.take_append_drop] at this
theorem wanted_guard {o : Oper} {tmps : Array Value} {g : Nat} {e b : Bool} (hg : o.guard = some (g, e)) (hy : yielded ops tmps g = some b) : Region.wanted o (yielded ops tmps) = (b == e) := by
  unfold Region.wanted
  rw [hg]
  show (yielded ops tmps g == some e) = _
  rw [hy]
  cases b <;> cases e <;> rfl
/-- what a guarded operation leaves -/
def gv (b e : Bool) (v : Value) : Value := if b = e then v else undef
@[simp] theorem gv_live {b e : Bool} {v : Value} (h : b = e) : gv b e v = v := if_pos h
theorem flow_gop {fin : Act → Prop} {o : Oper} {rest : List Oper} {A : Act} {g : Nat} {e b : Bool} {v : Value} (hg : o.guard = some (g, e)) (hy : yielded ops A.tmps g = some b)
    (h : b = e → ∀ W, Inv W → Gives P Inv o A W v) (hr : Flow P ops Inv fin rest (A.put o.dst (gv b e v))) : Flow P ops Inv fin (o :: rest) A := by
  refine ⟨_, fun W hI => ?_, hr⟩
  rw [wanted_guard hg hy]
  by_cases hbe : b = e
  · rw [gv_live hbe]
    exact .inl ⟨by simp [hbe], h hbe W hI⟩
  · rw [show gv b e v = undef from if_neg hbe]
    exact .inr ⟨by simpa using hbe, rfl⟩
theorem flow_gval {fin : Act → Prop} {o : Oper} {rest : List Oper} {A : Act} {g : Nat} {e b : Bool} {v : Value} (hg : o.guard = some (g, e)) (hy : yielded ops A.tmps g = some b)
    (h : b = e → ∀ W, Inv W → (execOp A.eval o).run P W = .ok (.value v) W) (hr : Flow P ops Inv fin rest (A.put o.dst (gv b e v))) : Flow P ops Inv fin (o :: rest) A :=
  flow_gop hg hy (fun hb W hI => by unfold Gives; rw [h hb W hI]; exact ⟨rfl, hI⟩) hr
theorem wanted_guard2 {o : Oper} {tmps : Array Value} {g : Nat} {e' b e x : Bool} (hg : o.guard = some (g, e')) (hy : ((ops[g]?).bind (·.dst)).bind (tmps[·]?) = some (gv b e (.bool x))) : Region.wanted o (yielded ops tmps) = ((b == e) && (x == e')) := by
  unfold Region.wanted
  rw [hg]
  show (yielded ops tmps g == some e') = _
  unfold yielded
  rw [hy]
  by_cases hbe : b = e
  · rw [gv_live hbe]
    subst hbe
    cases x <;> cases e' <;> simp
  · rw [show gv b e (.bool x) = undef from if_neg hbe]
    have : (b == e) = false := by simpa using hbe
    rw [this]
    rfl
/-- an operation whose guard is guarded itself -/
theorem flow_gop2 {fin : Act → Prop} {o : Oper} {rest : List Oper} {A : Act} {g : Nat} {e' b e x : Bool} {v : Value} (hg : o.guard = some (g, e')) (hy : ((ops[g]?).bind (·.dst)).bind (A.tmps[·]?) = some (gv b e (.bool x)))
    (h : b = e → x = e' → ∀ W, Inv W → Gives P Inv o A W v) (hr : Flow P ops Inv fin rest (A.put o.dst (gv ((b == e) && (x == e')) true v))) : Flow P ops Inv fin (o :: rest) A := by
  refine ⟨_, fun W hI => ?_, hr⟩
  rw [wanted_guard2 hg hy]
  by_cases hbe : ((b == e) && (x == e')) = true
  · rw [gv_live hbe]
    have hbe' := hbe
    rw [Bool.and_eq_true, beq_iff_eq, beq_iff_eq] at hbe
    exact .inl ⟨hbe', h hbe.1 hbe.2 W hI⟩
  · rw [show gv _ true v = undef from if_neg hbe]
    exact .inr ⟨by simpa using hbe, rfl⟩
theorem flow_gval2 {fin : Act → Prop} {o : Oper} {rest : List Oper} {A : Act} {g : Nat} {e' b e x : Bool} {v : Value} (hg : o.guard = some (g, e')) (hy : ((ops[g]?).bind (·.dst)).bind (A.tmps[·]?) = some (gv b e (.bool x)))
    (h : b = e → x = e' → ∀ W, Inv W → (execOp A.eval o).run P W = .ok (.value v) W) (hr : Flow P ops Inv fin rest (A.put o.dst (gv ((b == e) && (x == e')) true v))) : Flow P ops Inv fin (o :: rest) A :=
  flow_gop2 hg hy (fun hb hx W hI => by unfold Gives; rw [h hb hx W hI]; exact ⟨rfl, hI⟩) hr
theorem flow_gand {fin : Act → Prop} {d : Option Tmp} {ty : TypeId} {pos : String} {af : Array Edge} {c t : Operand} {rest : List Oper} {A : Act} {g : Nat} {e b x y : Bool} (hy : yielded ops A.tmps g = some b) (hc : A.eval c = gv b e (.bool x)) (hx : A.eval t = gv ((b == e) && (x == true)) true (.bool y))
    (hr : Flow P ops Inv fin rest (A.put d (gv b e (.bool (x && y))))) : Flow P ops Inv fin (⟨d, .pick c t (.const (.bool false)), ty, pos, af, some (g, e)⟩ :: rest) A := by
  refine flow_gval (v := .bool (x && y)) rfl hy (fun hb W hW => ?_) hr
  have hk : A.eval (.const (.bool false)) = .bool false := rfl
  clear hr
  rw [gv_live hb] at hc
  subst hb
  generalize A.eval = ev at hc hx hk ⊢
  cases x
  · simp [execOp, hc, hk, go_sem]
  · rw [gv_live (by simp)] at hx
    simp [execOp, hc, hx, hk, go_sem]
theorem flow_gor {fin : Act → Prop} {d : Option Tmp} {ty : TypeId} {pos : String} {af : Array Edge} {c t : Operand} {rest : List Oper} {A : Act} {g : Nat} {e b x y : Bool} (hy : yielded ops A.tmps g = some b) (hc : A.eval c = gv b e (.bool x)) (hx : A.eval t = gv ((b == e) && (x == false)) true (.bool y))
    (hr : Flow P ops Inv fin rest (A.put d (gv b e (.bool (x || y))))) : Flow P ops Inv fin (⟨d, .pick c (.const (.bool true)) t, ty, pos, af, some (g, e)⟩ :: rest) A := by
  refine flow_gval (v := .bool (x || y)) rfl hy (fun hb W hW => ?_) hr
  have hk : A.eval (.const (.bool true)) = .bool true := rfl
  clear hr
  rw [gv_live hb] at hc
  subst hb
  generalize A.eval = ev at hc hx hk ⊢
  cases x
  · rw [gv_live (by simp)] at hx
    simp [execOp, hc, hx, hk, go_sem]
  · simp [execOp, hc, hk, go_sem]
theorem flow_dead {fin : Act → Prop} {o : Oper} {rest : List Oper} {A : Act} {g : Nat} {e b : Bool} (hg : o.guard = some (g, e)) (hy : yielded ops A.tmps g = some b)
    (h : (b == e) = false) (hr : Flow P ops Inv fin rest (A.put o.dst undef)) : Flow P ops Inv fin (o :: rest) A :=
  flow_skip (by rw [wanted_guard hg hy]; exact h) hr
/-- || -/
theorem flow_or {fin : Act → Prop} {d : Option Tmp} {ty : TypeId} {pos : String} {af : Array Edge} {c x : Operand} {rest : List Oper} {A : Act} {b y : Bool} (hc : A.eval c = .bool b) (hx : A.eval x = gv b false (.bool y))
    (hr : Flow P ops Inv fin rest (A.put d (.bool (b || y)))) : Flow P ops Inv fin (⟨d, .pick c (.const (.bool true)) x, ty, pos, af, none⟩ :: rest) A := by
  refine flow_val (v := .bool (b || y)) rfl (fun W hW => ?_) hr
  have hk : A.eval (.const (.bool true)) = .bool true := rfl
  clear hr
  generalize A.eval = ev at hc hx hk ⊢
  cases b
  · rw [gv_live rfl] at hx
    simp [execOp, hc, hx, hk, go_sem]
  · simp [execOp, hc, hk, go_sem]
/-- && -/
theorem flow_and {fin : Act → Prop} {d : Option Tmp} {ty : TypeId} {pos : String} {af : Array Edge} {c x : Operand} {rest : List Oper} {A : Act} {b y : Bool} (hc : A.eval c = .bool b) (hx : A.eval x = gv b true (.bool y))
    (hr : Flow P ops Inv fin rest (A.put d (.bool (b && y)))) : Flow P ops Inv fin (⟨d, .pick c x (.const (.bool false)), ty, pos, af, none⟩ :: rest) A := by
  refine flow_val (v := .bool (b && y)) rfl (fun W hW => ?_) hr
  have hk : A.eval (.const (.bool false)) = .bool false := rfl
  clear hr
  generalize A.eval = ev at hc hx hk ⊢
  cases b
  · simp [execOp, hc, hk, go_sem]
  · rw [gv_live rfl] at hx
    simp [execOp, hc, hx, hk, go_sem]
/-- a call whose value is the same in every world -/
theorem gives_call {o : Oper} {A : Act} {W : World} {v : Value} {f : FuncId} {args : Array Value} (he : (execOp A.eval o).run P W = .ok (.enter f args) W) (h : Calls P f args W fun e W' => e = .returned v ∧ Inv W') : Gives P Inv o A W v := by
  unfold Gives
  rw [he]
  exact h
end
@[simp] theorem since_refl (w : World) : Since w w := Below.refl _ _
@[simp] theorem since_alloc {w0 W : World} (o : Obj) (h : Since w0 W) : Since w0 (W.alloc o) := Below.alloc h h.size o
@[simp] theorem since_drew {w0 W : World} (h : Since w0 W) : Since w0 W.drew := Below.drew h
theorem since_below {w W : World} (h : Below w.heap.size w W) : Since w W := h
theorem Since.below {w W : World} (h : Since w W) : Below w.heap.size w W := h
theorem Since.after {a b c : World} (h : Since a b) (h' : Since b c) : Since a c := Since.trans h h'
theorem Since.cell {a b : World} (h : Since a b) {p : Addr} {v : Value} (hc : a.cell? p = some v) : b.cell? p = some v := bc h hc
theorem lift_cell {w0 w1 : World} {p : Addr} {v : Value} (f : ∀ W, Since w0 W → W.cell? p = some v) (h : Since w0 w1) : ∀ W, Since w1 W → W.cell? p = some v := fun W hW => f W (h.after hW)
theorem have_cell {w0 : World} {p : Addr} {v : Value} (h : w0.cell? p = some v) : ∀ W, Since w0 W → W.cell? p = some v := fun _ hW => bc hW h
end Go.Proofs.Ytaplbmgnfdikdaa
