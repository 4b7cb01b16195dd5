import Derived.Test.YtaplbmgnfdikdaaFlow3
namespace Go.Proofs.Ytaplbmgnfdikdaa
open Go Go.RowKit
/-! A region that draws its order, with one call whose value is not known beforehand. -/
section
variable {P : Program} {ops : Array Oper}
/-- the call gives some value of R -/
def GivesAny (P : Program) (R : World → Value → Prop) (o : Oper) (A : Act) (W : World) : Prop :=
  match (execOp A.eval o).run P W with
  | .ok (.value u) W' => R W' u ∧ Since W W'
  | .ok (.enter f args) W' => Calls P f args W' fun e W'' => ∃ u, e = .returned u ∧ R W'' u ∧ Since W W''
  | _ => False
theorem any_call {R : World → Value → Prop} {o : Oper} {A : Act} {W : World} {f : FuncId} {args : Array Value} (he : (execOp A.eval o).run P W = .ok (.enter f args) W) (h : Calls P f args W fun e W' => ∃ u, e = .returned u ∧ R W' u ∧ Since W W') : GivesAny P R o A W := by
  unfold GivesAny
  rw [he]
  exact h
theorem agree_exec {o : Oper} {a' A : Act} (hag : ∀ t ∈ o.looksAt ops, a'.tmps[t]? = A.tmps[t]?) (hns : ∀ cs b, o.op ≠ .select cs b) : execOp a'.eval o = execOp A.eval o ∧ Region.wanted o (yielded ops a'.tmps) = Region.wanted o (yielded ops A.tmps) := by
  refine ⟨execOp_congr o hns (fun x hx => ?_), ?_⟩
  · cases x with
    | tmp t =>
      have := hag t (List.mem_append_left _ (List.mem_filterMap.2 ⟨.tmp t, by simpa using hx, rfl⟩))
      simp [Act.eval, this]
    | _ => rfl
  · unfold Region.wanted
    cases hg : o.guard with
    | none => rfl
    | some gw =>
      obtain ⟨g, want⟩ := gw
      have : yielded ops a'.tmps g = yielded ops A.tmps g := by
        unfold yielded
        cases ht : (ops[g]?).bind (·.dst) with
        | none => rfl
        | some t =>
          have := hag t (by simp [Oper.looksAt, hg, ht])
          simp [this]
      simp only [this]
theorem FrameIs.vals2 {a a' : Act} {v v' : Nat → Value} {D : Nat → Prop} (h : FrameIs a ops v D a') (e : ∀ j, j < ops.size → D j → v j = v' j) : FrameIs a ops v' D a' :=
  ⟨h.defers, h.size, fun j o t hj ho hd hl => by rw [← e j (Array.getElem?_eq_some_iff.1 ho).1 hj]; exact h.on j o t hj ho hd hl, h.off⟩
/-- all operations behind the m-th hang on it -/
def hangB (ops : Array Oper) (m : Nat) : Bool := (List.range ops.size).all fun i => decide (i ≤ m) || ((closTbl ops (i + 1)).getD i []).contains m
theorem hang_ok {m : Nat} (h : hangB ops m = true) {i : Nat} (hi : m < i) (hin : i < ops.size) : Anc ops m i := by
  unfold hangB at h
  have := List.all_eq_true.1 h i (List.mem_range.2 hin)
  rw [Bool.or_eq_true] at this
  rcases this with h1 | h1
  · simp at h1; omega
  · exact closTbl_sound (i + 1) i m (by simpa using h1)
theorem wp_region_one {Q : Exit → Act → World → Prop} {rid : Nat} {a : Act} {w w0 : World} (m : Nat) {om' : Oper} (hom : ops[m]? = some om') (R : World → Value → Prop) (hR : ∀ W W' u, R W u → Since W W' → R W' u) (hm : P.follows .mixedOrders = true) (hf : flowB ops ops.size = true) (hh : hangB ops m = true) (hmn : m < ops.size) (hs0 : Since w0 w)
    (h : PFlow P ops w0 (fun A => (Region.wanted om' (yielded ops A.tmps) = true ∧ ∀ W, Since w0 W → GivesAny P R om' A W) ∧
      ∀ u, Flow P ops (fun W => Since w0 W ∧ R W u) (fun A => ∀ W, Since w0 W → R W u → Q .normal A W) (ops.toList.drop (m + 1)) (A.put om'.dst u)) (ops.toList.take m) a) : (Code.region rid ops true).wp P Q a w := by
  have hok := flow_ok hf
  obtain ⟨vals, F, h0, ⟨hany, hrest⟩, hst⟩ := pflow_frames _ a h
  have hlen : (ops.toList.take m).length = m := by simp; omega
  rw [hlen] at hany hrest
  have hget : ∀ i o, i < m → ops[i]? = some o → (ops.toList.take m)[i]? = some o := fun i o hi ho => by
    rw [List.getElem?_take, if_pos hi]; simpa using ho
  have om : ops[m]? = some ops[m] := Array.getElem?_eq_getElem hmn
  obtain rfl : om' = ops[m] := Option.some.inj (hom.symm.trans om)
  obtain ⟨hw1, hg1⟩ := hany
  have hF0 : ∀ i, i ≤ m → FrameIs a ops vals (fun j => j < i) (F i) := by
    intro i
    induction i with
    | zero => intro _; rw [h0]; exact ⟨rfl, rfl, fun j _ _ hj => absurd hj (by omega), fun _ _ => rfl⟩
    | succ i ih =>
      intro hi
      have hi' : i < ops.size := by omega
      have ho : ops[i]? = some ops[i] := Array.getElem?_eq_getElem hi'
      rw [(hst i _ (hget i _ (by omega) ho)).2]
      exact ((ih (by omega)).put ho (fun j oj d hj hoj hd hd2 => by
        have := hok.dsts i _ (by omega) ho j oj (by omega) hoj d hd hd2
        omega)).same (fun j => by show (j < i ∨ j = i) ↔ j < i + 1; omega)
  -- the values and frames behind the call
  have hfl := fun u => flow_frames _ _ (hrest u)
  obtain ⟨valu, hvu⟩ := Classical.axiomOfChoice hfl
  obtain ⟨G, hG⟩ := Classical.axiomOfChoice hvu
  have hget2 : ∀ i o, m < i → ops[i]? = some o → (ops.toList.drop (m + 1))[i - (m + 1)]? = some o := fun i o hi ho => by
    rw [List.getElem?_drop, show m + 1 + (i - (m + 1)) = i by omega]; simpa using ho
  have hlen2 : (ops.toList.drop (m + 1)).length = ops.size - (m + 1) := by simp
  let V : Value → Nat → Value := fun u j => if j < m then vals j else if j = m then u else valu u (j - (m + 1))
  have v1 : ∀ u j, j < m → V u j = vals j := fun u j hj => if_pos hj
  have v2 : ∀ u, V u m = u := fun u => by show (if m < m then _ else if m = m then u else _) = u; rw [if_neg (by omega), if_pos rfl]
  have v3 : ∀ u j, m < j → V u j = valu u (j - (m + 1)) := fun u j hj => by show (if j < m then _ else if j = m then u else _) = _; rw [if_neg (by omega), if_neg (by omega)]
  have hF : ∀ u i, i ≤ m → FrameIs a ops (V u) (fun j => j < i) (F i) := fun u i hi => (hF0 i hi).vals (fun j hj => (v1 u j (by omega)).symm)
  have hG1 : ∀ u i, i ≤ ops.size - (m + 1) → FrameIs a ops (V u) (fun j => j < m + 1 + i) (G u i) := by
    intro u i
    induction i with
    | zero =>
      intro _
      rw [(hG u).1]
      have := ((hF u m (Nat.le_refl _)).put om (fun j oj d hj hoj hd hd2 => by
        have := hok.dsts m _ hmn om j oj (by omega) hoj d hd hd2
        omega)).same (E := fun j => j < m + 1 + 0) (fun j => by show (j < m ∨ j = m) ↔ j < m + 1 + 0; omega)
      rw [v2] at this
      exact this
    | succ i ih =>
      intro hi
      have hi' : m + 1 + i < ops.size := by omega
      have ho : ops[m + 1 + i]? = some ops[m + 1 + i] := Array.getElem?_eq_getElem hi'
      have hg := hget2 (m + 1 + i) _ (by omega) ho
      rw [show m + 1 + i - (m + 1) = i by omega] at hg
      rw [((hG u).2.2 i _ hg).2]
      have := ((ih (by omega)).put ho (fun j oj d hj hoj hd hd2 => by
        have := hok.dsts (m + 1 + i) _ hi' ho j oj (by omega) hoj d hd hd2
        omega)).same (E := fun j => j < m + 1 + (i + 1)) (fun j => by show (j < m + 1 + i ∨ j = m + 1 + i) ↔ j < m + 1 + (i + 1); omega)
      rw [v3 u _ (by omega), show m + 1 + i - (m + 1) = i by omega] at this
      exact this
  refine wp_region_inv hm hok.back (fun D a' W => Since w0 W ∧ ∃ u, FrameIs a ops (V u) D a' ∧ (D m → R W u)) ⟨since_drew hs0, undef, ⟨rfl, rfl, fun j _ _ hj => hj.elim, fun _ _ => rfl⟩, fun h => h.elim⟩ ?_ ?_
  · rintro D a' W i o ⟨hW, u, hfr, hRu⟩ ho hDi hdep hcl
    have hin : i < ops.size := (Array.getElem?_eq_some_iff.1 ho).1
    have look : ∀ t ∈ o.looksAt ops, ∀ j oj, ops[j]? = some oj → oj.dst = some t → D j ∧ j < i := fun t ht j oj hoj hd => by
      have hjn : j < ops.size := (Array.getElem?_eq_some_iff.1 hoj).1
      have := hok.looks i o hin ho t ht j oj hjn hoj hd
      exact ⟨hdep j this, hok.back i o ho j this⟩
    have dist : ∀ j oj d, D j → ops[j]? = some oj → o.dst = some d → oj.dst ≠ some d := fun j oj d hj hoj hd hd2 => by
      have hjn : j < ops.size := (Array.getElem?_eq_some_iff.1 hoj).1
      have := hok.dsts i o hin ho j oj hjn hoj d hd hd2
      subst this
      exact hDi hj
    rcases Nat.lt_trichotomy i m with him | him | him
    · obtain ⟨⟨hw, hrun⟩, -⟩ := hst i o (hget i o him ho)
      obtain ⟨he, hw'⟩ := agree_exec (ops := ops) (a' := a') (A := F i) (fun t ht => hfr.agree (hF u i (by omega)) t (fun j oj hj hoj hd => look t ht j oj hoj hd)) (fun cs b => hok.nosel i o cs b ho)
      rw [if_pos (hw'.trans hw)]
      unfold Oper.wp
      rw [he, hrun W hW]
      refine ⟨hW, u, ?_, fun h => hRu (h.elim (fun h => h) fun e => by omega)⟩
      have := hfr.put (i := i) ho dist
      rwa [v1 u i him] at this
    · subst him
      rw [om] at ho; cases ho
      obtain ⟨he, hw'⟩ := agree_exec (ops := ops) (a' := a') (A := F i) (fun t ht => hfr.agree (hF u i (Nat.le_refl _)) t (fun j oj hj hoj hd => look t ht j oj hoj hd)) (fun cs b => hok.nosel i _ cs b om)
      rw [if_pos (hw'.trans hw1)]
      unfold Oper.wp
      rw [he]
      have hgv := hg1 W hW
      unfold GivesAny at hgv
      have next : ∀ u' W', R W' u' → Since W W' → Since w0 W' ∧ ∃ u, FrameIs a ops (V u) (fun j => D j ∨ j = i) (a'.put ops[i].dst u') ∧ ((D i ∨ i = i) → R W' u) := fun u' W' hr hs => by
        refine ⟨hW.after hs, u', ?_, fun _ => hr⟩
        have := (hfr.vals2 (v' := V u') (fun j hjn hj => by
          rcases Nat.lt_trichotomy j i with h | h | h
          · rw [v1 _ _ h, v1 _ _ h]
          · subst h; exact absurd hj hDi
          · exact absurd (anc_closed hcl (hang_ok hh h hjn) hj) hDi)).put (i := i) om dist
        rwa [v2] at this
      generalize (execOp (F i).eval ops[i]).run P W = r at hgv ⊢
      cases r with
      | ok nx W' =>
        cases nx with
        | value u' => exact next u' W' hgv.1 hgv.2
        | enter f args =>
          simp only at hgv
          rw [Oper.upon_enter]
          exact hgv.mono fun e W'' ⟨u', he', hr, hs⟩ => by subst he'; exact next u' W'' hr hs
        | _ => exact hgv.elim
      | halt x W' => exact hgv.elim
    · have hDm : D m := anc_ready hcl ho hdep (hang_ok hh him hin)
      have hg := hget2 i o him ho
      obtain ⟨hstep, -⟩ := (hG u).2.2 (i - (m + 1)) o hg
      have hfi := hG1 u (i - (m + 1)) (by omega)
      rw [show m + 1 + (i - (m + 1)) = i by omega] at hfi
      obtain ⟨he, hw'⟩ := agree_exec (ops := ops) (a' := a') (A := G u (i - (m + 1))) (fun t ht => hfr.agree hfi t (fun j oj hj hoj hd => look t ht j oj hoj hd)) (fun cs b => hok.nosel i o cs b ho)
      have next : ∀ W', Since w0 W' ∧ R W' u → Since w0 W' ∧ ∃ u2, FrameIs a ops (V u2) (fun j => D j ∨ j = i) (a'.put o.dst (valu u (i - (m + 1)))) ∧ ((D m ∨ m = i) → R W' u2) := fun W' hI => by
        refine ⟨hI.1, u, ?_, fun _ => hI.2⟩
        have := hfr.put (i := i) ho dist
        rwa [v3 u i him] at this
      rcases hstep W ⟨hW, hRu hDm⟩ with ⟨h1, h2⟩ | ⟨h1, h2⟩
      · rw [if_pos (hw'.trans h1)]
        unfold Oper.wp
        unfold Gives at h2
        rw [he]
        generalize (execOp (G u (i - (m + 1))).eval o).run P W = r at h2 ⊢
        cases r with
        | ok nx W' =>
          cases nx with
          | value u' => simp only at h2; obtain ⟨rfl, h3⟩ := h2; exact next W' h3
          | skip => simp only at h2; obtain ⟨h4, h3⟩ := h2; rw [Oper.upon_skip, h4]; exact next W' h3
          | enter f args =>
            simp only at h2
            rw [Oper.upon_enter]
            exact h2.mono fun e W'' ⟨he', h3⟩ => by subst he'; exact next W'' h3
          | _ => exact h2.elim
        | halt x W' => exact h2.elim
      · rw [if_neg (by rw [hw', h1]; simp)]
        have := next W ⟨hW, hRu hDm⟩
        rw [h2] at this
        exact this
  · rintro D a' W ⟨hW, u, hfr, hRu⟩ hall
    have hfi := hG1 u (ops.size - (m + 1)) (Nat.le_refl _)
    have e := hfr.ext hfi (fun j hj => ⟨fun _ => by omega, fun _ => hall j hj⟩)
    rw [e]
    have := (hG u).2.1
    rw [hlen2] at this
    exact this W hW (hRu (hall m hmn))
end
end Go.Proofs.Ytaplbmgnfdikdaa
