/- Parts of the proof: walks of functions and plain laws. -/
import Derived.Test.YtlfehdikgbgloaaP10
import Derived.Test.YtlfehdikgbgloaaP15
namespace Go.Proofs.Ytlfehdikgbgloaa
open Go Go.RowKit
/-! A region that draws its order: reads and one chain of calls among its first k operations, all the others hang on all of these and are walked as a flow. -/
section
variable {P : Program} {ops : Array Oper}
def chainFB (ops : Array Oper) (k : Nat) (mask : List Bool) : Bool :=
  flowB ops ops.size && decide (mask.length = k) && decide (k ≤ ops.size) &&
  ((List.range k).all fun i => match ops[i]? with
    | none => true
    | some o => if mask.getD i true then (List.range i).all fun j => !mask.getD j true || ((closTbl ops (i + 1)).getD i []).contains j
      else (depsOf o).all fun j => !mask.getD j true) &&
  (List.range ops.size).all fun i => decide (i < k) || (List.range k).all fun j => ((closTbl ops (i + 1)).getD i []).contains j
set_option maxHeartbeats 1000000 in
theorem wp_region_chainflow {Q : Exit → Act → World → Prop} {rid : Nat} {a : Act} {w w0 : World} (k : Nat) (mask : List Bool) (hm : P.follows .mixedOrders = true) (hc : chainFB ops k mask = true) (hs0 : Since w0 w)
    (h : PFlow P ops w0 (fun A => TFlow P ops (Since w0) (fun A W => ∃ Inv : World → Prop, Inv W ∧ Flow P ops Inv (fun A' => ∀ W', Inv W' → Q .normal A' W') (ops.toList.drop k) A) (selT mask (ops.toList.take k)) A w.drew) (selF mask (ops.toList.take k)) a) : (Code.region rid ops true).wp P Q a w := by
  unfold chainFB at hc
  simp only [Bool.and_eq_true, decide_eq_true_eq] at hc
  obtain ⟨⟨⟨⟨hf, hml⟩, hkn⟩, hch⟩, htl2⟩ := hc
  have hok := flow_ok hf
  have hlt : mask.length = (ops.toList.take k).length := by simp; omega
  have hmk : ∀ i, i < k → ∃ b, mask[i]? = some b := fun i hi => ⟨_, List.getElem?_eq_getElem (by omega)⟩
  have hget : ∀ i o, i < k → ops[i]? = some o → (ops.toList.take k)[i]? = some o := fun i o hi ho => by
    rw [List.getElem?_take, if_pos hi]; simpa using ho
  have hmd : ∀ i b, mask[i]? = some b → mask.getD i true = b := fun i b hb => by rw [List.getD_eq_getElem?_getD, hb]; rfl
  have hml' : ∀ i b, mask[i]? = some b → i < k := fun i b hb => by have := (List.getElem?_eq_some_iff.1 hb).1; omega
  have tailAnc : ∀ i j, k ≤ i → i < ops.size → j < k → Anc ops j i := fun i j hki hi hj => by
    have := List.all_eq_true.1 htl2 i (List.mem_range.2 hi)
    rw [Bool.or_eq_true] at this
    rcases this with h1 | h1
    · simp at h1; omega
    · exact closTbl_sound (i + 1) i j (by simpa using List.all_eq_true.1 h1 j (List.mem_range.2 hj))
  have chT : ∀ i j, mask[i]? = some true → mask[j]? = some true → j < i → Anc ops j i := fun i j hi hj hji => by
    have hik := hml' i _ hi
    have ho : ops[i]? = some ops[i] := Array.getElem?_eq_getElem (by omega)
    have := List.all_eq_true.1 hch i (List.mem_range.2 hik)
    simp only [ho] at this
    rw [if_pos (hmd i _ hi)] at this
    have := List.all_eq_true.1 this j (List.mem_range.2 hji)
    rw [hmd j _ hj, Bool.not_true, Bool.false_or] at this
    exact closTbl_sound (i + 1) i j (by simpa using this)
  have chF : ∀ i o j, mask[i]? = some false → ops[i]? = some o → j ∈ depsOf o → mask[j]? = some false := fun i o j hi ho hj => by
    have hik := hml' i _ hi
    have hji := hok.back i o ho j hj
    have := List.all_eq_true.1 hch i (List.mem_range.2 hik)
    simp only [ho] at this
    rw [if_neg (by rw [hmd i _ hi]; simp)] at this
    have := List.all_eq_true.1 this j hj
    obtain ⟨b, hb⟩ := hmk j (by omega)
    rw [hmd j _ hb] at this
    cases b <;> simp_all
  obtain ⟨vals, F, h0, hfin, hst⟩ := pflow_frames _ a h
  have hpure : ∀ r, r ≤ mask.count false → FrameIs a ops (fun j => vals (rk false mask j)) (fun j => mask[j]? = some false ∧ rk false mask j < r) (F r) := by
    intro r
    induction r with
    | zero => intro _; rw [h0]; exact ⟨rfl, rfl, fun j _ _ hj => by have := hj.2; omega, fun _ _ => rfl⟩
    | succ r ih =>
      intro hr
      obtain ⟨i, hi1, hi2⟩ := rk_has (b := false) mask r (by omega)
      have hik := hml' i _ hi1
      have ho : ops[i]? = some ops[i] := Array.getElem?_eq_getElem (by omega)
      have hsel := selF_rk mask _ i hlt hi1
      rw [hget i _ hik ho, hi2] at hsel
      rw [(hst r _ hsel).2]
      have := ((ih (by omega)).put ho (fun j oj d hj hoj hd hd2 => by
        have := hok.dsts i _ (by omega) ho j oj (by have := hml' j _ hj.1; omega) hoj d hd hd2
        subst this
        have := hj.2
        omega)).same (E := fun j => mask[j]? = some false ∧ rk false mask j < r + 1) (fun j => by
          constructor
          · rintro (⟨a1, a2⟩ | rfl)
            · exact ⟨a1, by omega⟩
            · exact ⟨hi1, by omega⟩
          · rintro ⟨a1, a2⟩
            by_cases e : rk false mask j = r
            · exact .inr (rk_inj a1 hi1 (by omega))
            · exact .inl ⟨a1, by omega⟩)
      rw [show vals r = vals (rk false mask i) by rw [hi2]]
      exact this
  have hnF : (selF mask (ops.toList.take k)).length = mask.count false := selF_len _ _ hlt
  rw [hnF] at hfin
  let FIN : Act → World → Prop := fun A W => ∃ Inv : World → Prop, Inv W ∧ Flow P ops Inv (fun A' => ∀ W', Inv W' → Q .normal A' W') (ops.toList.drop k) A
  let J : (Nat → Prop) → Act → World → Prop := fun D a' W =>
    (Since w0 W ∧ (∀ j, D j → j < k) ∧ ∃ (V : Nat → Value) (q : Nat) (A : Act), (∀ j, mask[j]? = some false → V j = vals (rk false mask j)) ∧ (∀ j, mask[j]? = some true → (D j ↔ rk true mask j < q)) ∧
      FrameIs a ops V D a' ∧ FrameIs a ops V (fun j => mask[j]? = some false ∨ (mask[j]? = some true ∧ rk true mask j < q)) A ∧
      TFlow P ops (Since w0) FIN ((selT mask (ops.toList.take k)).drop q) A W) ∨
    (∃ (Inv : World → Prop) (V : Nat → Value) (G : Nat → Act), Inv W ∧ (∀ j, j < k → D j) ∧ FrameIs a ops V D a' ∧ (∀ i o, k ≤ i → ops[i]? = some o → StepOk P ops Inv o (G (i - k)) (V i)) ∧
      (∀ i, k ≤ i → i ≤ ops.size → FrameIs a ops V (fun j => j < i) (G (i - k))) ∧ ∀ W', Inv W' → Q .normal (G (ops.size - k)) W')
  have htl : (selT mask (ops.toList.take k)).length = mask.count true := selT_len _ _ hlt
  -- the first k are done
  have full : ∀ D a' W, J D a' W → (∀ j, j < k → D j) → ∃ (Inv : World → Prop) (V : Nat → Value) (G : Nat → Act), Inv W ∧ (∀ j, j < k → D j) ∧ FrameIs a ops V D a' ∧ (∀ i o, k ≤ i → ops[i]? = some o → StepOk P ops Inv o (G (i - k)) (V i)) ∧
      (∀ i, k ≤ i → i ≤ ops.size → FrameIs a ops V (fun j => j < i) (G (i - k))) ∧ ∀ W', Inv W' → Q .normal (G (ops.size - k)) W' := by
    intro D a' W hJ hD
    rcases hJ with ⟨hW, hDk, V, q, A, hV, hT, hfr, hfA, htf⟩ | hJ
    · have hq : mask.count true ≤ q := by
        by_cases e : mask.count true ≤ q
        · exact e
        · obtain ⟨i, hi1, hi2⟩ := rk_has (b := true) mask q (by omega)
          have := (hT i hi1).1 (hD i (hml' i _ hi1))
          omega
      have enil : (selT mask (ops.toList.take k)).drop q = [] := List.drop_eq_nil_of_le (by omega)
      rw [enil] at htf
      have ea : a' = A := hfr.ext hfA (fun j hj => by
        constructor
        · intro hj'
          obtain ⟨b, hb⟩ := hmk j (hDk j hj')
          cases b
          · exact .inl hb
          · exact .inr ⟨hb, (hT j hb).1 hj'⟩
        · rintro (hb | ⟨hb, _⟩) <;> exact hD j (hml' j _ hb))
      subst ea
      obtain ⟨Inv, hI, hfl⟩ : FIN a' W := htf
      obtain ⟨vt, G, g0, gfin, gst⟩ := flow_frames _ _ hfl
      have hlen2 : (ops.toList.drop k).length = ops.size - k := by simp
      rw [hlen2] at gfin
      have hget2 : ∀ i o, k ≤ i → ops[i]? = some o → (ops.toList.drop k)[i - k]? = some o := fun i o hi ho => by
        rw [List.getElem?_drop, show k + (i - k) = i by omega]; simpa using ho
      let V' : Nat → Value := fun j => if j < k then V j else vt (j - k)
      have v1 : ∀ j, j < k → V' j = V j := fun j hj => if_pos hj
      have v2 : ∀ j, k ≤ j → V' j = vt (j - k) := fun j hj => if_neg (by omega)
      have fr0 : FrameIs a ops V' D a' := hfr.vals2 (fun j _ hj => (v1 j (hDk j hj)).symm)
      refine ⟨Inv, V', G, hI, hD, fr0, fun i o hi ho => ?_, ?_, gfin⟩
      · rw [v2 i hi]
        exact (gst (i - k) o (hget2 i o hi ho)).1
      · have step : ∀ t, k + t ≤ ops.size → FrameIs a ops V' (fun j => j < k + t) (G t) := by
          intro t
          induction t with
          | zero =>
            intro _
            rw [g0]
            exact fr0.same (fun j => ⟨fun h => by have := hDk j h; omega, fun h => hD j (by omega)⟩)
          | succ t ih =>
            intro ht
            have hi' : k + t < ops.size := by omega
            have ho : ops[k + t]? = some ops[k + t] := Array.getElem?_eq_getElem hi'
            have hg := hget2 (k + t) _ (by omega) ho
            rw [show k + t - k = t by omega] at hg
            rw [(gst t _ hg).2]
            have := ((ih (by omega)).put ho (fun j oj d hj hoj hd hd2 => by
              have := hok.dsts (k + t) _ hi' ho j oj (by omega) hoj d hd hd2
              omega)).same (E := fun j => j < k + (t + 1)) (fun j => by show (j < k + t ∨ j = k + t) ↔ j < k + (t + 1); omega)
            rw [v2 (k + t) (by omega), show k + t - k = t by omega] at this
            exact this
        intro i hi hin
        have := step (i - k) (by omega)
        rwa [show k + (i - k) = i by omega] at this
    · exact hJ
  refine wp_region_inv2 hm hok.back J (.inl ⟨since_drew hs0, fun j hj => hj.elim, fun j => vals (rk false mask j), 0, F (mask.count false), fun j _ => rfl, fun j _ => ⟨fun h => h.elim, fun h => by omega⟩, ⟨rfl, rfl, fun j _ _ hj => hj.elim, fun _ _ => rfl⟩, ?_, ?_⟩) ?_ ?_
  · exact (hpure _ (Nat.le_refl _)).same (fun j => by
      constructor
      · rintro ⟨a1, -⟩; exact .inl a1
      · rintro (a1 | ⟨-, a2⟩)
        · exact ⟨a1, rk_lt_count a1⟩
        · omega)
  · rw [List.drop_zero]; exact hfin
  · intro D a' W i o hJ ho hDi hdep hcl
    have hin : i < ops.size := (Array.getElem?_eq_some_iff.1 ho).1
    have lookA : ∀ t ∈ o.looksAt ops, ∀ j oj, ops[j]? = some oj → oj.dst = some t → D j ∧ j ∈ depsOf o := fun t ht j oj hoj hd => by
      have := hok.looks i o hin ho t ht j oj (Array.getElem?_eq_some_iff.1 hoj).1 hoj hd
      exact ⟨hdep j this, this⟩
    have dist : ∀ j oj d, D j → ops[j]? = some oj → o.dst = some d → oj.dst ≠ some d := fun j oj d hj hoj hd hd2 => by
      have := hok.dsts i o hin ho j oj (Array.getElem?_eq_some_iff.1 hoj).1 hoj d hd hd2
      subst this
      exact hDi hj
    by_cases hik : i < k
    · -- one of the first k
      rcases hJ with ⟨hW, hDk, V, q, A, hV, hT, hfr, hfA, htf⟩ | ⟨_, _, _, _, h3, -⟩
      rotate_left
      · exact absurd (h3 i hik) hDi
      obtain ⟨b, hb⟩ := hmk i hik
      cases b with
      | false =>
        have hsel := selF_rk mask _ i hlt hb
        rw [hget i _ hik ho] at hsel
        obtain ⟨⟨hw, hrun⟩, -⟩ := hst _ _ hsel
        have hr := rk_lt_count hb
        obtain ⟨he, hw'⟩ := agree_exec (ops := ops) (a' := a') (A := F (rk false mask i)) (fun t ht => (hfr.vals2 (v' := V) (fun _ _ _ => rfl)).agree ((hpure _ (Nat.le_of_lt hr)).vals (v' := V) (fun j hj => (hV j hj.1).symm)) t (fun j oj hj hoj hd => by
          obtain ⟨d1, d2⟩ := lookA t ht j oj hoj hd
          have hjf := chF i o j hb ho d2
          exact ⟨d1, hjf, rk_lt (hok.back i o ho j d2) hjf⟩)) (fun cs b => hok.nosel i o cs b ho)
        rw [if_pos (hw'.trans hw)]
        refine .inl ?_
        unfold Oper.wp
        rw [he, hrun W hW]
        refine .inl ⟨hW, fun j hj => hj.elim (fun h => hDk j h) (fun h => by omega), V, q, A, hV, fun j hj => ?_, ?_, hfA, htf⟩
        · rw [← hT j hj]
          constructor
          · rintro (h | rfl)
            · exact h
            · rw [hb] at hj; cases hj
          · exact .inl
        · have := hfr.put (i := i) ho dist
          rwa [hV i hb] at this
      | true =>
        have hq : rk true mask i = q := by
          have h1 : ¬ rk true mask i < q := fun h => hDi ((hT i hb).2 h)
          by_cases e : rk true mask i = q
          · exact e
          · obtain ⟨j, hj1, hj2⟩ := rk_has (b := true) mask q (by have := rk_lt_count hb; omega)
            have hji : j < i := by
              rcases Nat.lt_trichotomy j i with h | h | h
              · exact h
              · subst h; omega
              · have := rk_lt h hb; omega
            have := anc_ready hcl ho hdep (chT i j hb hj1 hji)
            have := (hT j hj1).1 this
            omega
        have hsel := selT_rk mask _ i hlt hb
        rw [hget i _ hik ho, hq] at hsel
        have hqn : q < (selT mask (ops.toList.take k)).length := (List.getElem?_eq_some_iff.1 hsel).1
        rw [List.drop_eq_getElem_cons hqn, (List.getElem?_eq_some_iff.1 hsel).2] at htf
        obtain ⟨he, hw'⟩ := agree_exec (ops := ops) (a' := a') (A := A) (fun t ht => hfr.agree hfA t (fun j oj hj hoj hd => by
          have hjk : j < k := hj.elim (fun h => hDk j h) (fun h => h.elim (hml' j _) (fun h => hml' j _ h.1))
          obtain ⟨d1, d2⟩ := lookA t ht j oj hoj hd
          refine ⟨d1, ?_⟩
          obtain ⟨b, hb'⟩ := hmk j hjk
          cases b
          · exact .inl hb'
          · exact .inr ⟨hb', (hT j hb').1 d1⟩)) (fun cs b => hok.nosel i o cs b ho)
        have next : ∀ u W', Since w0 W' → TFlow P ops (Since w0) FIN ((selT mask (ops.toList.take k)).drop (q + 1)) (A.put o.dst u) W' → J (fun j => D j ∨ j = i) (a'.put o.dst u) W' := by
          intro u W' hS ht
          let V' : Nat → Value := fun j => if j = i then u else V j
          have e1 : ∀ j, j ≠ i → V' j = V j := fun j hj => if_neg hj
          have e2 : V' i = u := if_pos rfl
          refine .inl ⟨hS, fun j hj => hj.elim (fun h => hDk j h) (fun h => by omega), V', q + 1, A.put o.dst u, fun j hj => ?_, fun j hj => ?_, ?_, ?_, ht⟩
          · rw [e1 j (fun e => by subst e; rw [hb] at hj; cases hj)]; exact hV j hj
          · constructor
            · rintro (h | rfl)
              · have := (hT j hj).1 h; omega
              · omega
            · intro h
              by_cases e : rk true mask j = q
              · exact .inr (rk_inj hj hb (by omega))
              · exact .inl ((hT j hj).2 (by omega))
          · have := (hfr.vals2 (v' := V') (fun j _ hj => (e1 j (fun e => by subst e; exact hDi hj)).symm)).put (i := i) ho dist
            rwa [e2] at this
          · have := ((hfA.vals2 (v' := V') (fun j _ hj => (e1 j (fun e => by
              subst e
              rcases hj with hj | ⟨-, hj⟩
              · rw [hb] at hj; cases hj
              · omega)).symm)).put (i := i) ho (fun j oj d hj hoj hd hd2 => by
                have := hok.dsts i o hin ho j oj (Array.getElem?_eq_some_iff.1 hoj).1 hoj d hd hd2
                subst this
                rcases hj with hj | ⟨-, hj⟩
                · rw [hb] at hj; cases hj
                · omega)).same (E := fun j => mask[j]? = some false ∨ (mask[j]? = some true ∧ rk true mask j < q + 1)) (fun j => by
                constructor
                · rintro ((h | ⟨h, h'⟩) | rfl)
                  · exact .inl h
                  · exact .inr ⟨h, by omega⟩
                  · exact .inr ⟨hb, by omega⟩
                · rintro (h | ⟨h, h'⟩)
                  · exact .inl (.inl h)
                  · by_cases e : rk true mask j = q
                    · exact .inr (rk_inj h hb (by omega))
                    · exact .inl (.inr ⟨h, by omega⟩))
            rwa [e2] at this
        rcases htf with ⟨hw, hrun⟩ | ⟨hw, hrun⟩
        · rw [if_pos (hw'.trans hw)]
          refine .inl ?_
          unfold Oper.wp
          rw [he]
          generalize (execOp A.eval o).run P W = r at hrun ⊢
          cases r with
          | ok nx W' =>
            cases nx with
            | value u => exact next u W' hrun.1 hrun.2
            | skip => exact next undef W' hrun.1 hrun.2
            | row row args => exact Rows.mono hrun fun u W'' h => next u W'' h.1 h.2
            | enter f args =>
              simp only [Oper.upon]
              exact Calls.mono hrun fun e W'' ⟨u, he', h3, h4⟩ => by subst he'; exact next u W'' h3 h4
            | _ => exact hrun.elim
          | halt x W' => exact hrun.elim
        · rw [if_neg (by rw [hw'.trans hw]; simp)]
          exact next _ _ hW hrun
    · -- the flow behind the first k
      have hall : ∀ j, j < k → D j := fun j hj => anc_ready hcl ho hdep (tailAnc i j (by omega) hin hj)
      obtain ⟨Inv, V, G, hI, hD, hfr, hstp, hGf, hQ⟩ := full D a' W hJ hall
      obtain ⟨he, hw'⟩ := agree_exec (ops := ops) (a' := a') (A := G (i - k)) (fun t ht => hfr.agree (hGf i (by omega) (by omega)) t (fun j oj hj hoj hd => by
        obtain ⟨d1, d2⟩ := lookA t ht j oj hoj hd
        exact ⟨d1, hok.back i o ho j d2⟩)) (fun cs b => hok.nosel i o cs b ho)
      have next : ∀ W', Inv W' → J (fun j => D j ∨ j = i) (a'.put o.dst (V i)) W' := fun W' hI' =>
        .inr ⟨Inv, V, G, hI', fun j hj => .inl (hD j hj), hfr.put (i := i) ho dist, hstp, hGf, hQ⟩
      rcases hstp i o (by omega) ho W hI with ⟨h1, h2⟩ | ⟨h1, h2⟩
      · rw [if_pos (hw'.trans h1)]
        refine .inl ?_
        unfold Oper.wp
        rw [he]
        unfold Gives at h2
        generalize (execOp (G (i - k)).eval o).run P W = r at h2 ⊢
        cases r with
        | ok nx W' =>
          cases nx with
          | value u => simp only at h2; obtain ⟨rfl, h3⟩ := h2; exact next W' h3
          | skip => simp only at h2; obtain ⟨h4, h3⟩ := h2; simp only [Oper.upon]; rw [h4]; exact next W' h3
          | enter f args =>
            simp only at h2
            simp only [Oper.upon]
            exact h2.mono fun e W'' ⟨he', h3⟩ => by subst he'; exact next W'' h3
          | _ => exact h2.elim
        | halt x W' => exact h2.elim
      · rw [if_neg (by rw [hw'.trans h1]; simp)]
        have := next W hI
        rw [h2] at this
        exact this
  · intro D a' W hJ hall
    obtain ⟨Inv, V, G, hI, hD, hfr, hstp, hGf, hQ⟩ := full D a' W hJ (fun j hj => hall j (by omega))
    have ea : a' = G (ops.size - k) := hfr.ext (hGf ops.size hkn (Nat.le_refl _)) (fun j hj => ⟨fun _ => hj, fun _ => hall j hj⟩)
    rw [ea]
    exact hQ W hI
end
end Go.Proofs.Ytlfehdikgbgloaa
namespace Go.Proofs.Ytlfehdikgbgloaa
open Go.RowKit
set_option maxRecDepth 100000 in
set_option maxHeartbeats 4000000 in
theorem maOn_any (ma mb mc md ve vi vn : Value) (m : Mac) (n : Net) (w : World) (hMa : MacIn w ma mb mc md m) (h : NetIn w ve vi vn n) (hok : macOk m = true) (hn : netOk n = true) :
    Calls Try.prog 105 #[.agg #[.int .i64 m.degree, .int .i64 m.states, .int .i64 m.messages, ma, mb, mc, md], .agg #[ve, vi, vn]] w fun e w' => e = .returned (.bool (maOnB m n)) ∧ Below w.heap.size w w' := by
  obtain ⟨w0, hw0⟩ : ∃ w0, w0 = ((w).alloc (.cells #[.int .i64 m.degree, .int .i64 m.states, .int .i64 m.messages, ma, mb, mc, md] 47)).alloc (.cells #[ve, vi, vn] 31) := ⟨_, rfl⟩
  have hb0 : Below w.heap.size w w0 := by rw [hw0]; exact (((Below.refl _ _).alloc (by simp <;> omega) _).alloc (by simp <;> omega) _)
  have H := Lib.hid (h.keep hb0)
  obtain ⟨h1, h2, h3⟩ := h.keep hb0
  obtain ⟨A, c, rfl, hlc, hm, hA⟩ := h1
  obtain ⟨A2, c2, rfl, _, hm2, _⟩ := h2
  obtain ⟨A3, c3, rfl, _, hm3, _⟩ := h3
  unfold maxLen at hm hm2 hm3
  have hkM := hMa.keep hb0
  have HM := Lib.hid hkM
  obtain ⟨M0, mz0, rfl, hlM0, hmM0, hMe0⟩ := id hkM.1
  unfold maxLen at hmM0
  have HMe0 := Lib.hid hMe0
  clear hMe0
  obtain ⟨M1, mz1, rfl, hlM1, hmM1, hMe1⟩ := id hkM.2.1
  unfold maxLen at hmM1
  have HMe1 := Lib.hid hMe1
  clear hMe1
  obtain ⟨M2, mz2, rfl, hlM2, hmM2, hMe2⟩ := id hkM.2.2.1
  unfold maxLen at hmM2
  have HMe2 := Lib.hid hMe2
  clear hMe2
  obtain ⟨M3, mz3, rfl, hlM3, hmM3, hMe3⟩ := id hkM.2.2.2
  unfold maxLen at hmM3
  have HMe3 := Lib.hid hMe3
  clear hMe3
  clear hkM hMa
  have p00 : ∀ W, Since w0 W → W.cell? ⟨w.heap.size, 0, none⟩ = some (.int .i64 m.degree) := have_cell (by rw [hw0]; simp)
  have p01 : ∀ W, Since w0 W → W.cell? ⟨w.heap.size, 1, none⟩ = some (.int .i64 m.states) := have_cell (by rw [hw0]; simp)
  have p02 : ∀ W, Since w0 W → W.cell? ⟨w.heap.size, 2, none⟩ = some (.int .i64 m.messages) := have_cell (by rw [hw0]; simp)
  have p03 : ∀ W, Since w0 W → W.cell? ⟨w.heap.size, 3, none⟩ = some (.slice M0 m.start.length mz0) := have_cell (by rw [hw0]; simp)
  have p04 : ∀ W, Since w0 W → W.cell? ⟨w.heap.size, 4, none⟩ = some (.slice M1 m.send.length mz1) := have_cell (by rw [hw0]; simp)
  have p05 : ∀ W, Since w0 W → W.cell? ⟨w.heap.size, 5, none⟩ = some (.slice M2 m.clauses.length mz2) := have_cell (by rw [hw0]; simp)
  have p06 : ∀ W, Since w0 W → W.cell? ⟨w.heap.size, 6, none⟩ = some (.slice M3 m.output.length mz3) := have_cell (by rw [hw0]; simp)
  have p10 : ∀ W, Since w0 W → W.cell? ⟨w.heap.size + 1, 0, none⟩ = some (.slice A n.ends.length c) := have_cell (by rw [hw0]; simp)
  have p11 : ∀ W, Since w0 W → W.cell? ⟨w.heap.size + 1, 1, none⟩ = some (.slice A2 n.ids.length c2) := have_cell (by rw [hw0]; simp)
  have p12 : ∀ W, Since w0 W → W.cell? ⟨w.heap.size + 1, 2, none⟩ = some (.slice A3 n.inputs.length c3) := have_cell (by rw [hw0]; simp)
  have Hb0 := Lib.hid hb0
  have Hw0 := Lib.hid hw0
  have HA := Lib.hid hA
  clear hA h
  clear hb0 hw0
  obtain ⟨hst, hsl, hd, _⟩ := macOk_start hok
  obtain ⟨x0, hx0⟩ := getx m.start 0 hsl
  obtain ⟨bb, off, u0, rfl, hc0, hu⟩ := HMe0.out 0 x0 hx0
  have r0 : ∀ W, Since w0 W → W.cell? ⟨bb, off, none⟩ = some u0 := fun W hW => bc hW (by simpa using hc0)
  obtain ⟨U0, y0, rfl, _, hy0, _⟩ := hu
  unfold maxLen at hy0
  have mw : IntKind.i64.wrap ((x0.length : Int) - 1) = (x0.length : Int) - 1 := wr64 _ (by omega) (by omega)
  have hr := Lib.hid (show maOnB m n = (allB (degsB n) 0 m.degree && allB n.inputs 0 ((x0.length : Int) - 1)) by
    unfold maOnB
    rw [show m.start.getD 0 [] = x0 by simp [List.getD, hx0]])
  have Hn := Lib.hid hn
  have HIn := Lib.hid H.out.2.2
  clear hc0 hx0 hn hok hst hd hy0
  go_enter Try.func105, Try.ntmps105
  go_upto_region 1 with (fail)
  rw [← Hw0.out]
  refine wp_region_chainflow (w0 := w0) 4 [false, true, false, false] (by kernel_rfl) (by kernel_rfl) (since_refl _) ?_
  simp only [List.take_succ_cons, List.take_zero, List.drop_succ_cons, List.drop_zero]
  simp only [selF, selT, List.take_succ_cons, List.take_zero, List.drop_succ_cons, List.drop_zero]
  refine pflow_val (v := ?_) rfl ?_ ?_; rotate_left; (intro W hW; go_simp; with_reducible rfl)
  simp only [Act.put, List.setIfInBounds_toArray, List.set_cons_succ, List.set_cons_zero]
  refine pflow_val (v := ?_) rfl ?_ ?_; rotate_left; (intro W hW; go_simp; with_reducible rfl)
  simp only [Act.put, List.setIfInBounds_toArray, List.set_cons_succ, List.set_cons_zero]
  refine pflow_val (v := ?_) rfl ?_ ?_; rotate_left; (intro W hW; go_simp; with_reducible rfl)
  simp only [Act.put, List.setIfInBounds_toArray, List.set_cons_succ, List.set_cons_zero]
  obtain ⟨W, hWd⟩ : ∃ W, W = World.drew w0 := ⟨_, rfl⟩
  rw [← hWd]
  have hW : Since w0 W := by rw [hWd]; exact since_drew (since_refl _)
  clear hWd
  refine Or.inl ⟨rfl, ?_⟩
  go_simp
  (with_reducible refine (neDegrees_any _ _ _ n _ (H.out.keep hW.below) Hn.out).mono ?_)
  rintro e W' ⟨u, rfl, ho, hb⟩
  refine ⟨_, rfl, Since.trans hW hb, ?_⟩
  refine ⟨fun W => Since w0 W ∧ IntS W u (degsB n), ⟨Since.trans hW hb, ho.ints⟩, ?_⟩
  clear hW
  simp only [Act.put, List.setIfInBounds_toArray, List.set_cons_succ, List.set_cons_zero]
  refine flow_op ?_ rfl ?_ ?_; rotate_left; (intro W hWR; have hW := hWR.1; have hR := Lib.hid hWR.2; clear hWR; unfold Gives; go_simp; (with_reducible refine (l1All_b _ (degsB n) _ _ W hR.out).mono ?_); rintro e W' ⟨rfl, hb3⟩; first | (refine ⟨?_, Since.trans hW hb3, hR.out.keep hb3⟩; with_reducible rfl) | (subst hb3; refine ⟨?_, hW, hR.out⟩; with_reducible rfl))
  simp only [Act.put, List.setIfInBounds_toArray, List.set_cons_succ, List.set_cons_zero]
  refine flow_val (v := ?_) rfl ?_ ?_; rotate_left; (intro W hWR; have hW := hWR.1; have hR := Lib.hid hWR.2; clear hWR; go_simp; with_reducible rfl)
  simp only [Act.put, List.setIfInBounds_toArray, List.set_cons_succ, List.set_cons_zero]
  refine flow_gval (v := ?_) rfl rfl ?_ ?_; rotate_left; (intro hb; intro W hWR; have hW := hWR.1; have hR := Lib.hid hWR.2; clear hWR; go_simp; with_reducible rfl)
  simp only [Act.put, List.setIfInBounds_toArray, List.set_cons_succ, List.set_cons_zero]
  refine flow_gval (v := ?_) rfl rfl ?_ ?_; rotate_left; (intro hb; intro W hWR; have hW := hWR.1; have hR := Lib.hid hWR.2; clear hWR; go_simp; with_reducible rfl)
  simp only [Act.put, List.setIfInBounds_toArray, List.set_cons_succ, List.set_cons_zero]
  refine flow_gval (v := ?_) rfl rfl ?_ ?_; rotate_left; (intro hb; intro W hWR; have hW := hWR.1; have hR := Lib.hid hWR.2; clear hWR; go_simp; with_reducible rfl)
  simp only [Act.put, List.setIfInBounds_toArray, List.set_cons_succ, List.set_cons_zero]
  refine flow_gval (v := ?_) rfl rfl ?_ ?_; rotate_left; (intro hb; intro W hWR; have hW := hWR.1; have hR := Lib.hid hWR.2; clear hWR; go_simp; with_reducible rfl)
  simp only [Act.put, List.setIfInBounds_toArray, List.set_cons_succ, List.set_cons_zero]
  refine flow_gval (v := ?_) rfl rfl ?_ ?_; rotate_left; (intro hb; intro W hWR; have hW := hWR.1; have hR := Lib.hid hWR.2; clear hWR; go_simp; with_reducible rfl)
  simp only [Act.put, List.setIfInBounds_toArray, List.set_cons_succ, List.set_cons_zero]
  refine flow_gval (v := ?_) rfl rfl ?_ ?_; rotate_left; (intro hb; intro W hWR; have hW := hWR.1; have hR := Lib.hid hWR.2; clear hWR; go_simp; with_reducible rfl)
  simp only [Act.put, List.setIfInBounds_toArray, List.set_cons_succ, List.set_cons_zero]
  refine flow_gval (v := ?_) rfl rfl ?_ ?_; rotate_left; (intro hb; intro W hWR; have hW := hWR.1; have hR := Lib.hid hWR.2; clear hWR; go_simp; with_reducible rfl)
  simp only [Act.put, List.setIfInBounds_toArray, List.set_cons_succ, List.set_cons_zero]
  refine flow_gval (v := ?_) rfl rfl ?_ ?_; rotate_left; (intro hb; intro W hWR; have hW := hWR.1; have hR := Lib.hid hWR.2; clear hWR; go_simp; with_reducible rfl)
  simp only [Act.put, List.setIfInBounds_toArray, List.set_cons_succ, List.set_cons_zero]
  refine flow_gop (v := ?_) rfl rfl ?_ ?_; rotate_left; (intro hb; intro W hWR; have hW := hWR.1; have hR := Lib.hid hWR.2; clear hWR; unfold Gives; go_simp; (with_reducible refine (l1All_b _ n.inputs _ _ W (HIn.out.keep hW.below)).mono ?_); rintro e W' ⟨rfl, hb3⟩; first | (refine ⟨?_, Since.trans hW hb3, hR.out.keep hb3⟩; with_reducible rfl) | (subst hb3; refine ⟨?_, hW, hR.out⟩; with_reducible rfl))
  simp only [Act.put, List.setIfInBounds_toArray, List.set_cons_succ, List.set_cons_zero]
  first | refine flow_and rfl rfl ?_ | (refine flow_val (v := ?_) rfl ?_ ?_; rotate_left; (intro W hWR; have hW := hWR.1; have hR := Lib.hid hWR.2; clear hWR; go_simp; with_reducible rfl))
  simp only [Act.put, List.setIfInBounds_toArray, List.set_cons_succ, List.set_cons_zero]
  refine flow_val (v := ?_) rfl ?_ ?_; rotate_left; (intro W hWR; have hW := hWR.1; have hR := Lib.hid hWR.2; clear hWR; go_simp; with_reducible rfl)
  simp only [Act.put, List.setIfInBounds_toArray, List.set_cons_succ, List.set_cons_zero]
  intro W hWR
  have HW := Lib.hid hWR.1
  clear hWR
  go_wp2
  go_ret
  exact ⟨ret_bool hr.out.symm, Since.after Hb0.out HW.out⟩
end Go.Proofs.Ytlfehdikgbgloaa
namespace Go.Proofs.Ytlfehdikgbgloaa
open Go.RowKit
set_option maxRecDepth 100000 in
set_option maxHeartbeats 4000000 in
theorem runsOn_any (ma mb mc md ve vi vn : Value) (m : Mac) (n : Net) (w : World) (hMa : MacIn w ma mb mc md m) (h : NetIn w ve vi vn n) (hok : macOk m = true) (hn : netOk n = true) :
    Calls Try.prog 81 #[.agg #[.int .i64 m.degree, .int .i64 m.states, .int .i64 m.messages, ma, mb, mc, md], .agg #[ve, vi, vn]] w fun e w' => e = .returned (.bool (maOnB m n)) ∧ Below w.heap.size w w' := by
  rw [← runsOn_eq hn]
  have hn40 := (netOk_len hn).2
  have hil := (netOk_inp hn).1
  obtain ⟨w0, hw0⟩ : ∃ w0, w0 = ((w).alloc (.cells #[.int .i64 m.degree, .int .i64 m.states, .int .i64 m.messages, ma, mb, mc, md] 47)).alloc (.cells #[ve, vi, vn] 31) := ⟨_, rfl⟩
  have hb0 : Below w.heap.size w w0 := by rw [hw0]; exact (((Below.refl _ _).alloc (by simp <;> omega) _).alloc (by simp <;> omega) _)
  have H := Lib.hid (h.keep hb0)
  obtain ⟨h1, h2, h3⟩ := h.keep hb0
  obtain ⟨A, c, rfl, hlc, hm, hA⟩ := h1
  obtain ⟨A2, c2, rfl, _, hm2, _⟩ := h2
  obtain ⟨A3, c3, rfl, _, hm3, _⟩ := h3
  unfold maxLen at hm hm2 hm3
  have hkM := hMa.keep hb0
  have HM := Lib.hid hkM
  obtain ⟨M0, mz0, rfl, hlM0, hmM0, hMe0⟩ := id hkM.1
  unfold maxLen at hmM0
  have HMe0 := Lib.hid hMe0
  clear hMe0
  obtain ⟨M1, mz1, rfl, hlM1, hmM1, hMe1⟩ := id hkM.2.1
  unfold maxLen at hmM1
  have HMe1 := Lib.hid hMe1
  clear hMe1
  obtain ⟨M2, mz2, rfl, hlM2, hmM2, hMe2⟩ := id hkM.2.2.1
  unfold maxLen at hmM2
  have HMe2 := Lib.hid hMe2
  clear hMe2
  obtain ⟨M3, mz3, rfl, hlM3, hmM3, hMe3⟩ := id hkM.2.2.2
  unfold maxLen at hmM3
  have HMe3 := Lib.hid hMe3
  clear hMe3
  clear hkM hMa
  have p00 : ∀ W, Since w0 W → W.cell? ⟨w.heap.size, 0, none⟩ = some (.int .i64 m.degree) := have_cell (by rw [hw0]; simp)
  have p01 : ∀ W, Since w0 W → W.cell? ⟨w.heap.size, 1, none⟩ = some (.int .i64 m.states) := have_cell (by rw [hw0]; simp)
  have p02 : ∀ W, Since w0 W → W.cell? ⟨w.heap.size, 2, none⟩ = some (.int .i64 m.messages) := have_cell (by rw [hw0]; simp)
  have p03 : ∀ W, Since w0 W → W.cell? ⟨w.heap.size, 3, none⟩ = some (.slice M0 m.start.length mz0) := have_cell (by rw [hw0]; simp)
  have p04 : ∀ W, Since w0 W → W.cell? ⟨w.heap.size, 4, none⟩ = some (.slice M1 m.send.length mz1) := have_cell (by rw [hw0]; simp)
  have p05 : ∀ W, Since w0 W → W.cell? ⟨w.heap.size, 5, none⟩ = some (.slice M2 m.clauses.length mz2) := have_cell (by rw [hw0]; simp)
  have p06 : ∀ W, Since w0 W → W.cell? ⟨w.heap.size, 6, none⟩ = some (.slice M3 m.output.length mz3) := have_cell (by rw [hw0]; simp)
  have p10 : ∀ W, Since w0 W → W.cell? ⟨w.heap.size + 1, 0, none⟩ = some (.slice A n.ends.length c) := have_cell (by rw [hw0]; simp)
  have p11 : ∀ W, Since w0 W → W.cell? ⟨w.heap.size + 1, 1, none⟩ = some (.slice A2 n.ids.length c2) := have_cell (by rw [hw0]; simp)
  have p12 : ∀ W, Since w0 W → W.cell? ⟨w.heap.size + 1, 2, none⟩ = some (.slice A3 n.inputs.length c3) := have_cell (by rw [hw0]; simp)
  have Hb0 := Lib.hid hb0
  have Hw0 := Lib.hid hw0
  have HA := Lib.hid hA
  clear hA h
  clear hb0 hw0
  obtain ⟨hst, hsl, hd, _⟩ := macOk_start hok
  obtain ⟨x0, hx0⟩ := getx m.start 0 hsl
  obtain ⟨bb, off, u0, rfl, hc0, hu⟩ := HMe0.out 0 x0 hx0
  have r0 : ∀ W, Since w0 W → W.cell? ⟨bb, off, none⟩ = some u0 := fun W hW => bc hW (by simpa using hc0)
  obtain ⟨U0, y0, rfl, _, hy0, _⟩ := hu
  unfold maxLen at hy0
  have Hx0' := Lib.hid (show m.start.getD 0 [] = x0 by simp [List.getD, hx0])
  have Hil := Lib.hid hil
  have HI := Lib.hid H.out.2.2
  have hs0 : Since w0 w0 := since_refl _
  clear hc0 hx0 hn hok hst hd hil
  go_enter Try.func81, Try.ntmps81
  go_upto_region 1 with (fail)
  rw [← Hw0.out]
  go_wp2
  go_loopw [10] (fun i wr => ∃ k : Nat, k ≤ n.ends.length ∧ i = .int .i64 k ∧ (List.range k).all (runB m n) = true ∧ Since w0 wr) (fun i _ => n.ends.length - (intOf i).toNat)
  case atStart => exact ⟨0, Nat.zero_le _, rfl, rfl, hs0⟩
  case round =>
    obtain ⟨k, hk, rfl, hall, hsr⟩ := hrel
    have Hall := Lib.hid hall
    clear hall hs0
    by_cases hlt : k < n.ends.length
    · obtain ⟨es, hes⟩ := getx n.ends k hlt
      obtain ⟨b, offr, cr, ur, hA1, hkr, hc1, hrow⟩ := row_at H.out.es hes
      cases hA1
      obtain ⟨A1, z1, rfl, hz1, hz2, _⟩ := hrow
      unfold maxLen at hz2
      have q5 := have_cell hc1
      obtain ⟨y, hy⟩ := getx n.inputs k (by have := Hil.out; omega)
      obtain ⟨_, _, hv3, _, _, hA3⟩ := HI.out
      cases hv3
      obtain ⟨bi, offi, rfl, hci⟩ := hA3 k y hy
      have q6 := have_cell hci
      have Hrb : Hid (runB m n k = (decide ((es.length : Int) ≤ m.degree) && decide (y < (x0.length : Int)))) := by
        show _ = _
        unfold runB
        rw [Hx0'.out]
        simp [List.getD, hes, hy]
      have hki : k < n.inputs.length := by have := Hil.out; omega
      clear hes hc1 hy hci hA3
      go_upto_region 4 with (fail)
      refine wp_region_flow 18 (Since w0) (by kernel_rfl) (by kernel_rfl) (by simp) (since_drew hsr) ?_
      simp only [List.take_succ_cons, List.take_zero, List.drop_succ_cons, List.drop_zero]
      refine flow_val (v := ?_) rfl ?_ ?_; rotate_left; (intro W hW; go_simp; with_reducible rfl)
      simp only [Act.put, List.setIfInBounds_toArray, List.set_cons_succ, List.set_cons_zero]
      refine flow_val (v := ?_) rfl ?_ ?_; rotate_left; (intro W hW; go_simp; with_reducible rfl)
      simp only [Act.put, List.setIfInBounds_toArray, List.set_cons_succ, List.set_cons_zero]
      refine flow_val (v := ?_) rfl ?_ ?_; rotate_left; (intro W hW; go_simp; with_reducible rfl)
      simp only [Act.put, List.setIfInBounds_toArray, List.set_cons_succ, List.set_cons_zero]
      refine flow_val (v := ?_) rfl ?_ ?_; rotate_left; (intro W hW; go_simp; with_reducible rfl)
      simp only [Act.put, List.setIfInBounds_toArray, List.set_cons_succ, List.set_cons_zero]
      refine flow_val (v := ?_) rfl ?_ ?_; rotate_left; (intro W hW; go_simp; with_reducible rfl)
      simp only [Act.put, List.setIfInBounds_toArray, List.set_cons_succ, List.set_cons_zero]
      refine flow_val (v := ?_) rfl ?_ ?_; rotate_left; (intro W hW; go_simp; with_reducible rfl)
      simp only [Act.put, List.setIfInBounds_toArray, List.set_cons_succ, List.set_cons_zero]
      refine flow_gval (v := ?_) rfl rfl ?_ ?_; rotate_left; (intro hb; intro W hW; go_simp; with_reducible rfl)
      simp only [Act.put, List.setIfInBounds_toArray, List.set_cons_succ, List.set_cons_zero]
      refine flow_gval (v := ?_) rfl rfl ?_ ?_; rotate_left; (intro hb; intro W hW; go_simp; with_reducible rfl)
      simp only [Act.put, List.setIfInBounds_toArray, List.set_cons_succ, List.set_cons_zero]
      refine flow_gval (v := ?_) rfl rfl ?_ ?_; rotate_left; (intro hb; intro W hW; go_simp; with_reducible rfl)
      simp only [Act.put, List.setIfInBounds_toArray, List.set_cons_succ, List.set_cons_zero]
      refine flow_gval (v := ?_) rfl rfl ?_ ?_; rotate_left; (intro hb; intro W hW; go_simp; with_reducible rfl)
      simp only [Act.put, List.setIfInBounds_toArray, List.set_cons_succ, List.set_cons_zero]
      refine flow_gval (v := ?_) rfl rfl ?_ ?_; rotate_left; (intro hb; intro W hW; go_simp; with_reducible rfl)
      simp only [Act.put, List.setIfInBounds_toArray, List.set_cons_succ, List.set_cons_zero]
      refine flow_gval (v := ?_) rfl rfl ?_ ?_; rotate_left; (intro hb; intro W hW; go_simp; with_reducible rfl)
      simp only [Act.put, List.setIfInBounds_toArray, List.set_cons_succ, List.set_cons_zero]
      refine flow_gval (v := ?_) rfl rfl ?_ ?_; rotate_left; (intro hb; intro W hW; go_simp; with_reducible rfl)
      simp only [Act.put, List.setIfInBounds_toArray, List.set_cons_succ, List.set_cons_zero]
      refine flow_gval (v := ?_) rfl rfl ?_ ?_; rotate_left; (intro hb; intro W hW; go_simp; with_reducible rfl)
      simp only [Act.put, List.setIfInBounds_toArray, List.set_cons_succ, List.set_cons_zero]
      refine flow_gval (v := ?_) rfl rfl ?_ ?_; rotate_left; (intro hb; intro W hW; go_simp; with_reducible rfl)
      simp only [Act.put, List.setIfInBounds_toArray, List.set_cons_succ, List.set_cons_zero]
      refine flow_gval (v := ?_) rfl rfl ?_ ?_; rotate_left; (intro hb; intro W hW; go_simp; with_reducible rfl)
      simp only [Act.put, List.setIfInBounds_toArray, List.set_cons_succ, List.set_cons_zero]
      refine flow_gval (v := ?_) rfl rfl ?_ ?_; rotate_left; (intro hb; intro W hW; go_simp; with_reducible rfl)
      simp only [Act.put, List.setIfInBounds_toArray, List.set_cons_succ, List.set_cons_zero]
      first | refine flow_or rfl rfl ?_ | (refine flow_val (v := ?_) rfl ?_ ?_; rotate_left; (intro W hW; go_simp; with_reducible rfl))
      simp only [Act.put, List.setIfInBounds_toArray, List.set_cons_succ, List.set_cons_zero]
      intro W1 hW1
      have HW1 := Lib.hid hW1
      cases hg : (decide (m.degree < (es.length : Int)) || decide ((x0.length : Int) ≤ y))
      · have Hb : Hid (runB m n k = true) := by
          show _ = _
          rw [Hrb.out]
          simp only [Bool.or_eq_false_iff, decide_eq_false_iff_not] at hg
          simp only [Bool.and_eq_true, decide_eq_true_eq]
          omega
        clear hW1
        go_wp2
        go_roundw
        case rel => exact ⟨k + 1, by omega, by go_num, by rw [List.range_succ, List.all_append, Hall.out]; simpa using Hb.out, HW1.out⟩
        case measure => simp [intOf]; omega
      · have hr := Lib.hid (show runsOnB m n = false by
          unfold runsOnB
          rw [List.all_eq_false]
          refine ⟨k, List.mem_range.2 hlt, ?_⟩
          rw [Hrb.out]
          simp only [Bool.or_eq_true, decide_eq_true_eq] at hg
          simp only [Bool.and_eq_true, decide_eq_true_eq]
          omega)
        clear hW1
        go_wp2
        go_ret
        exact ⟨ret_false hr.out, Since.after Hb0.out HW1.out⟩
    · obtain rfl : k = n.ends.length := by omega
      have hr := Lib.hid (show runsOnB m n = true from Hall.out)
      have HS := Lib.hid hsr
      clear hlt hk hsr
      go_wp2
      go_ret
      exact ⟨ret_true hr.out, Since.after Hb0.out HS.out⟩
end Go.Proofs.Ytlfehdikgbgloaa
namespace Go.Proofs.Ytlfehdikgbgloaa
open Go.RowKit
set_option maxRecDepth 100000 in
set_option maxHeartbeats 4000000 in
theorem statesOk_any (ma mb mc md ve vi vn vs : Value) (m : Mac) (n : Net) (xs : List Int) (w : World) (hMa : MacIn w ma mb mc md m) (h : NetIn w ve vi vn n) (hx : IntS w vs xs) (hok : macOk m = true) :
    Calls Try.prog 83 #[.agg #[.int .i64 m.degree, .int .i64 m.states, .int .i64 m.messages, ma, mb, mc, md], .agg #[ve, vi, vn], vs] w fun e w' => e = .returned (.bool (maRowB xs (n.ends.length : Int) m.states)) ∧ Below w.heap.size w w' := by
  obtain ⟨_, _, _, hst, _⟩ := macOk_start hok
  have ms : IntKind.i64.wrap (m.states - 1) = m.states - 1 := wr64 _ (by omega) (by omega)
  have HX0 := Lib.hid hx
  obtain ⟨XA, xc, rfl, _, hxm, _⟩ := hx
  unfold maxLen at hxm
  obtain ⟨w0, hw0⟩ : ∃ w0, w0 = ((w).alloc (.cells #[.int .i64 m.degree, .int .i64 m.states, .int .i64 m.messages, ma, mb, mc, md] 47)).alloc (.cells #[ve, vi, vn] 31) := ⟨_, rfl⟩
  have hb0 : Below w.heap.size w w0 := by rw [hw0]; exact (((Below.refl _ _).alloc (by simp <;> omega) _).alloc (by simp <;> omega) _)
  have H := Lib.hid (h.keep hb0)
  obtain ⟨h1, h2, h3⟩ := h.keep hb0
  obtain ⟨A, c, rfl, hlc, hm, hA⟩ := h1
  obtain ⟨A2, c2, rfl, _, hm2, _⟩ := h2
  obtain ⟨A3, c3, rfl, _, hm3, _⟩ := h3
  unfold maxLen at hm hm2 hm3
  have hkM := hMa.keep hb0
  have HM := Lib.hid hkM
  obtain ⟨M0, mz0, rfl, hlM0, hmM0, hMe0⟩ := id hkM.1
  unfold maxLen at hmM0
  have HMe0 := Lib.hid hMe0
  clear hMe0
  obtain ⟨M1, mz1, rfl, hlM1, hmM1, hMe1⟩ := id hkM.2.1
  unfold maxLen at hmM1
  have HMe1 := Lib.hid hMe1
  clear hMe1
  obtain ⟨M2, mz2, rfl, hlM2, hmM2, hMe2⟩ := id hkM.2.2.1
  unfold maxLen at hmM2
  have HMe2 := Lib.hid hMe2
  clear hMe2
  obtain ⟨M3, mz3, rfl, hlM3, hmM3, hMe3⟩ := id hkM.2.2.2
  unfold maxLen at hmM3
  have HMe3 := Lib.hid hMe3
  clear hMe3
  clear hkM hMa
  have p00 : ∀ W, Since w0 W → W.cell? ⟨w.heap.size, 0, none⟩ = some (.int .i64 m.degree) := have_cell (by rw [hw0]; simp)
  have p01 : ∀ W, Since w0 W → W.cell? ⟨w.heap.size, 1, none⟩ = some (.int .i64 m.states) := have_cell (by rw [hw0]; simp)
  have p02 : ∀ W, Since w0 W → W.cell? ⟨w.heap.size, 2, none⟩ = some (.int .i64 m.messages) := have_cell (by rw [hw0]; simp)
  have p03 : ∀ W, Since w0 W → W.cell? ⟨w.heap.size, 3, none⟩ = some (.slice M0 m.start.length mz0) := have_cell (by rw [hw0]; simp)
  have p04 : ∀ W, Since w0 W → W.cell? ⟨w.heap.size, 4, none⟩ = some (.slice M1 m.send.length mz1) := have_cell (by rw [hw0]; simp)
  have p05 : ∀ W, Since w0 W → W.cell? ⟨w.heap.size, 5, none⟩ = some (.slice M2 m.clauses.length mz2) := have_cell (by rw [hw0]; simp)
  have p06 : ∀ W, Since w0 W → W.cell? ⟨w.heap.size, 6, none⟩ = some (.slice M3 m.output.length mz3) := have_cell (by rw [hw0]; simp)
  have p10 : ∀ W, Since w0 W → W.cell? ⟨w.heap.size + 1, 0, none⟩ = some (.slice A n.ends.length c) := have_cell (by rw [hw0]; simp)
  have p11 : ∀ W, Since w0 W → W.cell? ⟨w.heap.size + 1, 1, none⟩ = some (.slice A2 n.ids.length c2) := have_cell (by rw [hw0]; simp)
  have p12 : ∀ W, Since w0 W → W.cell? ⟨w.heap.size + 1, 2, none⟩ = some (.slice A3 n.inputs.length c3) := have_cell (by rw [hw0]; simp)
  have Hb0 := Lib.hid hb0
  have Hw0 := Lib.hid hw0
  have HA := Lib.hid hA
  clear hA h
  clear hb0 hw0
  have HX := Lib.hid (HX0.out.keep Hb0.out)
  clear hok hst
  go_enter Try.func83, Try.ntmps83
  go_upto_region 1 with (fail)
  rw [← Hw0.out]
  refine wp_region_flow0 14 (Since w0) (since_refl _) ?_
  simp only [List.take_succ_cons, List.take_zero, List.drop_succ_cons, List.drop_zero]
  refine flow_val (v := ?_) rfl ?_ ?_; rotate_left; (intro W hW; go_simp; with_reducible rfl)
  simp only [Act.put, List.setIfInBounds_toArray, List.set_cons_succ, List.set_cons_zero]
  refine flow_val (v := ?_) rfl ?_ ?_; rotate_left; (intro W hW; go_simp; with_reducible rfl)
  simp only [Act.put, List.setIfInBounds_toArray, List.set_cons_succ, List.set_cons_zero]
  refine flow_val (v := ?_) rfl ?_ ?_; rotate_left; (intro W hW; go_simp; with_reducible rfl)
  simp only [Act.put, List.setIfInBounds_toArray, List.set_cons_succ, List.set_cons_zero]
  refine flow_val (v := ?_) rfl ?_ ?_; rotate_left; (intro W hW; go_simp; with_reducible rfl)
  simp only [Act.put, List.setIfInBounds_toArray, List.set_cons_succ, List.set_cons_zero]
  refine flow_val (v := ?_) rfl ?_ ?_; rotate_left; (intro W hW; go_simp; with_reducible rfl)
  simp only [Act.put, List.setIfInBounds_toArray, List.set_cons_succ, List.set_cons_zero]
  refine flow_val (v := ?_) rfl ?_ ?_; rotate_left; (intro W hW; go_simp; with_reducible rfl)
  simp only [Act.put, List.setIfInBounds_toArray, List.set_cons_succ, List.set_cons_zero]
  refine flow_val (v := ?_) rfl ?_ ?_; rotate_left; (intro W hW; go_simp; with_reducible rfl)
  simp only [Act.put, List.setIfInBounds_toArray, List.set_cons_succ, List.set_cons_zero]
  refine flow_gval (v := ?_) rfl rfl ?_ ?_; rotate_left; (intro hb; intro W hW; go_simp; with_reducible rfl)
  simp only [Act.put, List.setIfInBounds_toArray, List.set_cons_succ, List.set_cons_zero]
  refine flow_gval (v := ?_) rfl rfl ?_ ?_; rotate_left; (intro hb; intro W hW; go_simp; with_reducible rfl)
  simp only [Act.put, List.setIfInBounds_toArray, List.set_cons_succ, List.set_cons_zero]
  refine flow_gval (v := ?_) rfl rfl ?_ ?_; rotate_left; (intro hb; intro W hW; go_simp; with_reducible rfl)
  simp only [Act.put, List.setIfInBounds_toArray, List.set_cons_succ, List.set_cons_zero]
  refine flow_gval (v := ?_) rfl rfl ?_ ?_; rotate_left; (intro hb; intro W hW; go_simp; with_reducible rfl)
  simp only [Act.put, List.setIfInBounds_toArray, List.set_cons_succ, List.set_cons_zero]
  refine flow_gop (v := ?_) rfl rfl ?_ ?_; rotate_left; (intro hb; intro W hW; unfold Gives; go_simp; (with_reducible refine (allWithin_b _ xs _ _ W (HX.out.keep hW.below)).mono ?_); rintro e W' ⟨rfl, hb3⟩; first | (refine ⟨?_, Since.trans hW hb3⟩; with_reducible rfl) | (subst hb3; refine ⟨?_, hW⟩; with_reducible rfl))
  simp only [Act.put, List.setIfInBounds_toArray, List.set_cons_succ, List.set_cons_zero]
  first | refine flow_and rfl rfl ?_ | (refine flow_val (v := ?_) rfl ?_ ?_; rotate_left; (intro W hW; go_simp; with_reducible rfl))
  simp only [Act.put, List.setIfInBounds_toArray, List.set_cons_succ, List.set_cons_zero]
  refine flow_val (v := ?_) rfl ?_ ?_; rotate_left; (intro W hW; go_simp; with_reducible rfl)
  simp only [Act.put, List.setIfInBounds_toArray, List.set_cons_succ, List.set_cons_zero]
  intro W hW
  have HW := Lib.hid hW
  clear hW
  go_wp2
  go_ret
  exact ⟨rfl, Since.after Hb0.out HW.out⟩
end Go.Proofs.Ytlfehdikgbgloaa
namespace Go.Proofs.Ytlfehdikgbgloaa
open Go.RowKit
set_option maxRecDepth 100000 in
set_option maxHeartbeats 4000000 in
theorem maAsked_any (ma mb mc md ve vi vn : Value) (m : Mac) (n : Net) (w : World) (hMa : MacIn w ma mb mc md m) (h : NetIn w ve vi vn n) (hil : n.ids.length ≤ 17592186044416) :
    Calls Try.prog 75 #[.agg #[.int .i64 m.degree, .int .i64 m.states, .int .i64 m.messages, ma, mb, mc, md], .agg #[ve, vi, vn]] w fun e w' => e = .returned (.bool (askedB m n)) ∧ Below w.heap.size w w' := by
  have Hil := Lib.hid hil
  clear hil
  obtain ⟨w0, hw0⟩ : ∃ w0, w0 = ((w).alloc (.cells #[.int .i64 m.degree, .int .i64 m.states, .int .i64 m.messages, ma, mb, mc, md] 47)).alloc (.cells #[ve, vi, vn] 31) := ⟨_, rfl⟩
  have hb0 : Below w.heap.size w w0 := by rw [hw0]; exact (((Below.refl _ _).alloc (by simp <;> omega) _).alloc (by simp <;> omega) _)
  have H := Lib.hid (h.keep hb0)
  obtain ⟨h1, h2, h3⟩ := h.keep hb0
  obtain ⟨A, c, rfl, hlc, hm, hA⟩ := h1
  obtain ⟨A2, c2, rfl, _, hm2, _⟩ := h2
  obtain ⟨A3, c3, rfl, _, hm3, _⟩ := h3
  unfold maxLen at hm hm2 hm3
  have hkM := hMa.keep hb0
  have HM := Lib.hid hkM
  obtain ⟨M0, mz0, rfl, hlM0, hmM0, hMe0⟩ := id hkM.1
  unfold maxLen at hmM0
  have HMe0 := Lib.hid hMe0
  clear hMe0
  obtain ⟨M1, mz1, rfl, hlM1, hmM1, hMe1⟩ := id hkM.2.1
  unfold maxLen at hmM1
  have HMe1 := Lib.hid hMe1
  clear hMe1
  obtain ⟨M2, mz2, rfl, hlM2, hmM2, hMe2⟩ := id hkM.2.2.1
  unfold maxLen at hmM2
  have HMe2 := Lib.hid hMe2
  clear hMe2
  obtain ⟨M3, mz3, rfl, hlM3, hmM3, hMe3⟩ := id hkM.2.2.2
  unfold maxLen at hmM3
  have HMe3 := Lib.hid hMe3
  clear hMe3
  clear hkM hMa
  have p00 : ∀ W, Since w0 W → W.cell? ⟨w.heap.size, 0, none⟩ = some (.int .i64 m.degree) := have_cell (by rw [hw0]; simp)
  have p01 : ∀ W, Since w0 W → W.cell? ⟨w.heap.size, 1, none⟩ = some (.int .i64 m.states) := have_cell (by rw [hw0]; simp)
  have p02 : ∀ W, Since w0 W → W.cell? ⟨w.heap.size, 2, none⟩ = some (.int .i64 m.messages) := have_cell (by rw [hw0]; simp)
  have p03 : ∀ W, Since w0 W → W.cell? ⟨w.heap.size, 3, none⟩ = some (.slice M0 m.start.length mz0) := have_cell (by rw [hw0]; simp)
  have p04 : ∀ W, Since w0 W → W.cell? ⟨w.heap.size, 4, none⟩ = some (.slice M1 m.send.length mz1) := have_cell (by rw [hw0]; simp)
  have p05 : ∀ W, Since w0 W → W.cell? ⟨w.heap.size, 5, none⟩ = some (.slice M2 m.clauses.length mz2) := have_cell (by rw [hw0]; simp)
  have p06 : ∀ W, Since w0 W → W.cell? ⟨w.heap.size, 6, none⟩ = some (.slice M3 m.output.length mz3) := have_cell (by rw [hw0]; simp)
  have p10 : ∀ W, Since w0 W → W.cell? ⟨w.heap.size + 1, 0, none⟩ = some (.slice A n.ends.length c) := have_cell (by rw [hw0]; simp)
  have p11 : ∀ W, Since w0 W → W.cell? ⟨w.heap.size + 1, 1, none⟩ = some (.slice A2 n.ids.length c2) := have_cell (by rw [hw0]; simp)
  have p12 : ∀ W, Since w0 W → W.cell? ⟨w.heap.size + 1, 2, none⟩ = some (.slice A3 n.inputs.length c3) := have_cell (by rw [hw0]; simp)
  have Hb0 := Lib.hid hb0
  have Hw0 := Lib.hid hw0
  have HA := Lib.hid hA
  clear hA h
  clear hb0 hw0
  go_enter Try.func75, Try.ntmps75
  go_upto_region 1 with (fail)
  rw [← Hw0.out]
  refine wp_region_flow0 12 (Since w0) (since_refl _) ?_
  simp only [List.take_succ_cons, List.take_zero, List.drop_succ_cons, List.drop_zero]
  refine flow_val (v := ?_) rfl ?_ ?_; rotate_left; (intro W hW; go_simp; with_reducible rfl)
  simp only [Act.put, List.setIfInBounds_toArray, List.set_cons_succ, List.set_cons_zero]
  refine flow_op ?_ rfl ?_ ?_; rotate_left; (intro W hW; unfold Gives; go_simp; (with_reducible refine (maGood_any _ _ _ _ m W (HM.out.keep hW.below)).mono ?_); rintro e W' ⟨rfl, hb3⟩; first | (refine ⟨?_, Since.trans hW hb3⟩; with_reducible rfl) | (subst hb3; refine ⟨?_, hW⟩; with_reducible rfl))
  simp only [Act.put, List.setIfInBounds_toArray, List.set_cons_succ, List.set_cons_zero]
  refine flow_val (v := ?_) rfl ?_ ?_; rotate_left; (intro W hW; go_simp; with_reducible rfl)
  simp only [Act.put, List.setIfInBounds_toArray, List.set_cons_succ, List.set_cons_zero]
  refine flow_gval (v := ?_) rfl rfl ?_ ?_; rotate_left; (intro hb; intro W hW; go_simp; with_reducible rfl)
  simp only [Act.put, List.setIfInBounds_toArray, List.set_cons_succ, List.set_cons_zero]
  refine flow_gop (v := ?_) rfl rfl ?_ ?_; rotate_left; (intro hb; intro W hW; unfold Gives; go_simp; (with_reducible refine (neGood_any _ _ _ n W (H.out.keep hW.below)).mono ?_); rintro e W' ⟨rfl, hb3⟩; first | (refine ⟨?_, Since.trans hW hb3⟩; with_reducible rfl) | (subst hb3; refine ⟨?_, hW⟩; with_reducible rfl))
  simp only [Act.put, List.setIfInBounds_toArray, List.set_cons_succ, List.set_cons_zero]
  first | refine flow_and rfl rfl ?_ | (refine flow_val (v := ?_) rfl ?_ ?_; rotate_left; (intro W hW; go_simp; with_reducible rfl))
  simp only [Act.put, List.setIfInBounds_toArray, List.set_cons_succ, List.set_cons_zero]
  refine flow_val (v := ?_) rfl ?_ ?_; rotate_left; (intro W hW; go_simp; with_reducible rfl)
  simp only [Act.put, List.setIfInBounds_toArray, List.set_cons_succ, List.set_cons_zero]
  refine flow_gval (v := ?_) rfl rfl ?_ ?_; rotate_left; (intro hb; intro W hW; go_simp; with_reducible rfl)
  simp only [Act.put, List.setIfInBounds_toArray, List.set_cons_succ, List.set_cons_zero]
  refine flow_gval (v := ?_) rfl rfl ?_ ?_; rotate_left; (intro hb; intro W hW; go_simp; with_reducible rfl)
  simp only [Act.put, List.setIfInBounds_toArray, List.set_cons_succ, List.set_cons_zero]
  refine flow_gop (v := ?_) rfl rfl ?_ ?_; rotate_left; (intro hb; intro W hW; unfold Gives; go_simp; (with_reducible refine (maOn_any _ _ _ _ _ _ _ m n W (HM.out.keep hW.below) (H.out.keep hW.below) (by simpa using (Bool.and_eq_true_iff.1 (by simpa using hb)).1) (by simpa using (Bool.and_eq_true_iff.1 (by simpa using hb)).2)).mono ?_); rintro e W' ⟨rfl, hb3⟩; first | (refine ⟨?_, Since.trans hW hb3⟩; with_reducible rfl) | (subst hb3; refine ⟨?_, hW⟩; with_reducible rfl))
  simp only [Act.put, List.setIfInBounds_toArray, List.set_cons_succ, List.set_cons_zero]
  first | refine flow_and rfl rfl ?_ | (refine flow_val (v := ?_) rfl ?_ ?_; rotate_left; (intro W hW; go_simp; with_reducible rfl))
  simp only [Act.put, List.setIfInBounds_toArray, List.set_cons_succ, List.set_cons_zero]
  refine flow_val (v := ?_) rfl ?_ ?_; rotate_left; (intro W hW; go_simp; with_reducible rfl)
  simp only [Act.put, List.setIfInBounds_toArray, List.set_cons_succ, List.set_cons_zero]
  intro W hW
  have HW := Lib.hid hW
  clear hW
  go_wp2
  go_ret
  exact ⟨rfl, Since.after Hb0.out HW.out⟩
set_option maxRecDepth 100000 in
set_option maxHeartbeats 4000000 in
theorem fits_any (ma mb mc md ve vi vn : Value) (m : Mac) (n : Net) (w : World) (hMa : MacIn w ma mb mc md m) (h : NetIn w ve vi vn n) (hil : n.ids.length ≤ 17592186044416) :
    Calls Try.prog 44 #[.agg #[.int .i64 m.degree, .int .i64 m.states, .int .i64 m.messages, ma, mb, mc, md], .agg #[ve, vi, vn]] w fun e w' => e = .returned (.bool (askedB m n)) ∧ Below w.heap.size w w' := by
  have Hil := Lib.hid hil
  clear hil
  obtain ⟨w0, hw0⟩ : ∃ w0, w0 = ((w).alloc (.cells #[.int .i64 m.degree, .int .i64 m.states, .int .i64 m.messages, ma, mb, mc, md] 47)).alloc (.cells #[ve, vi, vn] 31) := ⟨_, rfl⟩
  have hb0 : Below w.heap.size w w0 := by rw [hw0]; exact (((Below.refl _ _).alloc (by simp <;> omega) _).alloc (by simp <;> omega) _)
  have H := Lib.hid (h.keep hb0)
  obtain ⟨h1, h2, h3⟩ := h.keep hb0
  obtain ⟨A, c, rfl, hlc, hm, hA⟩ := h1
  obtain ⟨A2, c2, rfl, _, hm2, _⟩ := h2
  obtain ⟨A3, c3, rfl, _, hm3, _⟩ := h3
  unfold maxLen at hm hm2 hm3
  have hkM := hMa.keep hb0
  have HM := Lib.hid hkM
  obtain ⟨M0, mz0, rfl, hlM0, hmM0, hMe0⟩ := id hkM.1
  unfold maxLen at hmM0
  have HMe0 := Lib.hid hMe0
  clear hMe0
  obtain ⟨M1, mz1, rfl, hlM1, hmM1, hMe1⟩ := id hkM.2.1
  unfold maxLen at hmM1
  have HMe1 := Lib.hid hMe1
  clear hMe1
  obtain ⟨M2, mz2, rfl, hlM2, hmM2, hMe2⟩ := id hkM.2.2.1
  unfold maxLen at hmM2
  have HMe2 := Lib.hid hMe2
  clear hMe2
  obtain ⟨M3, mz3, rfl, hlM3, hmM3, hMe3⟩ := id hkM.2.2.2
  unfold maxLen at hmM3
  have HMe3 := Lib.hid hMe3
  clear hMe3
  clear hkM hMa
  have p00 : ∀ W, Since w0 W → W.cell? ⟨w.heap.size, 0, none⟩ = some (.int .i64 m.degree) := have_cell (by rw [hw0]; simp)
  have p01 : ∀ W, Since w0 W → W.cell? ⟨w.heap.size, 1, none⟩ = some (.int .i64 m.states) := have_cell (by rw [hw0]; simp)
  have p02 : ∀ W, Since w0 W → W.cell? ⟨w.heap.size, 2, none⟩ = some (.int .i64 m.messages) := have_cell (by rw [hw0]; simp)
  have p03 : ∀ W, Since w0 W → W.cell? ⟨w.heap.size, 3, none⟩ = some (.slice M0 m.start.length mz0) := have_cell (by rw [hw0]; simp)
  have p04 : ∀ W, Since w0 W → W.cell? ⟨w.heap.size, 4, none⟩ = some (.slice M1 m.send.length mz1) := have_cell (by rw [hw0]; simp)
  have p05 : ∀ W, Since w0 W → W.cell? ⟨w.heap.size, 5, none⟩ = some (.slice M2 m.clauses.length mz2) := have_cell (by rw [hw0]; simp)
  have p06 : ∀ W, Since w0 W → W.cell? ⟨w.heap.size, 6, none⟩ = some (.slice M3 m.output.length mz3) := have_cell (by rw [hw0]; simp)
  have p10 : ∀ W, Since w0 W → W.cell? ⟨w.heap.size + 1, 0, none⟩ = some (.slice A n.ends.length c) := have_cell (by rw [hw0]; simp)
  have p11 : ∀ W, Since w0 W → W.cell? ⟨w.heap.size + 1, 1, none⟩ = some (.slice A2 n.ids.length c2) := have_cell (by rw [hw0]; simp)
  have p12 : ∀ W, Since w0 W → W.cell? ⟨w.heap.size + 1, 2, none⟩ = some (.slice A3 n.inputs.length c3) := have_cell (by rw [hw0]; simp)
  have Hb0 := Lib.hid hb0
  have Hw0 := Lib.hid hw0
  have HA := Lib.hid hA
  clear hA h
  clear hb0 hw0
  go_enter Try.func44, Try.ntmps44
  go_upto_region 1 with (fail)
  rw [← Hw0.out]
  refine wp_region_flow0 12 (Since w0) (since_refl _) ?_
  simp only [List.take_succ_cons, List.take_zero, List.drop_succ_cons, List.drop_zero]
  refine flow_val (v := ?_) rfl ?_ ?_; rotate_left; (intro W hW; go_simp; with_reducible rfl)
  simp only [Act.put, List.setIfInBounds_toArray, List.set_cons_succ, List.set_cons_zero]
  refine flow_op ?_ rfl ?_ ?_; rotate_left; (intro W hW; unfold Gives; go_simp; (with_reducible refine (isMachine_any _ _ _ _ m W (HM.out.keep hW.below)).mono ?_); rintro e W' ⟨rfl, hb3⟩; first | (refine ⟨?_, Since.trans hW hb3⟩; with_reducible rfl) | (subst hb3; refine ⟨?_, hW⟩; with_reducible rfl))
  simp only [Act.put, List.setIfInBounds_toArray, List.set_cons_succ, List.set_cons_zero]
  refine flow_val (v := ?_) rfl ?_ ?_; rotate_left; (intro W hW; go_simp; with_reducible rfl)
  simp only [Act.put, List.setIfInBounds_toArray, List.set_cons_succ, List.set_cons_zero]
  refine flow_gval (v := ?_) rfl rfl ?_ ?_; rotate_left; (intro hb; intro W hW; go_simp; with_reducible rfl)
  simp only [Act.put, List.setIfInBounds_toArray, List.set_cons_succ, List.set_cons_zero]
  refine flow_gop (v := ?_) rfl rfl ?_ ?_; rotate_left; (intro hb; intro W hW; unfold Gives; go_simp; (with_reducible refine (isNetwork_any _ _ _ n W (H.out.keep hW.below) Hil.out).mono ?_); rintro e W' ⟨rfl, hb3⟩; first | (refine ⟨?_, Since.trans hW hb3⟩; with_reducible rfl) | (subst hb3; refine ⟨?_, hW⟩; with_reducible rfl))
  simp only [Act.put, List.setIfInBounds_toArray, List.set_cons_succ, List.set_cons_zero]
  first | refine flow_and rfl rfl ?_ | (refine flow_val (v := ?_) rfl ?_ ?_; rotate_left; (intro W hW; go_simp; with_reducible rfl))
  simp only [Act.put, List.setIfInBounds_toArray, List.set_cons_succ, List.set_cons_zero]
  refine flow_val (v := ?_) rfl ?_ ?_; rotate_left; (intro W hW; go_simp; with_reducible rfl)
  simp only [Act.put, List.setIfInBounds_toArray, List.set_cons_succ, List.set_cons_zero]
  refine flow_gval (v := ?_) rfl rfl ?_ ?_; rotate_left; (intro hb; intro W hW; go_simp; with_reducible rfl)
  simp only [Act.put, List.setIfInBounds_toArray, List.set_cons_succ, List.set_cons_zero]
  refine flow_gval (v := ?_) rfl rfl ?_ ?_; rotate_left; (intro hb; intro W hW; go_simp; with_reducible rfl)
  simp only [Act.put, List.setIfInBounds_toArray, List.set_cons_succ, List.set_cons_zero]
  refine flow_gop (v := ?_) rfl rfl ?_ ?_; rotate_left; (intro hb; intro W hW; unfold Gives; go_simp; (with_reducible refine (runsOn_any _ _ _ _ _ _ _ m n W (HM.out.keep hW.below) (H.out.keep hW.below) (by simpa using (Bool.and_eq_true_iff.1 (by simpa using hb)).1) (by simpa using (Bool.and_eq_true_iff.1 (by simpa using hb)).2)).mono ?_); rintro e W' ⟨rfl, hb3⟩; first | (refine ⟨?_, Since.trans hW hb3⟩; with_reducible rfl) | (subst hb3; refine ⟨?_, hW⟩; with_reducible rfl))
  simp only [Act.put, List.setIfInBounds_toArray, List.set_cons_succ, List.set_cons_zero]
  first | refine flow_and rfl rfl ?_ | (refine flow_val (v := ?_) rfl ?_ ?_; rotate_left; (intro W hW; go_simp; with_reducible rfl))
  simp only [Act.put, List.setIfInBounds_toArray, List.set_cons_succ, List.set_cons_zero]
  refine flow_val (v := ?_) rfl ?_ ?_; rotate_left; (intro W hW; go_simp; with_reducible rfl)
  simp only [Act.put, List.setIfInBounds_toArray, List.set_cons_succ, List.set_cons_zero]
  intro W hW
  have HW := Lib.hid hW
  clear hW
  go_wp2
  go_ret
  exact ⟨rfl, Since.after Hb0.out HW.out⟩
end Go.Proofs.Ytlfehdikgbgloaa
