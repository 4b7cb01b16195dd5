/- Parts of the proof: walks of functions and plain laws. -/
import Derived.Test.YtomnaabadohecaaGreatP6
import Derived.Test.YtomnaabadohecaaGreatP3
import Derived.Test.YtomnaabadohecaaGreatP4
namespace Go.Proofs.YtomnaabadohecaaGreat
open Go Go.RowKit
/-! A region that draws its order: reads and one chain of calls among its first k operations, all the others hang on all of these and are walked as a flow. -/
section
variable {P : Program} {ops : Array Oper}
def chainFB (ops : Array Oper) (k : Nat) (mask : List Bool) : Bool :=
  flowB ops ops.size && decide (mask.length = k) && decide (k ≤ ops.size) &&
  ((List.range k).all fun i => match ops[i]? with
    | none => true
    | some o => if mask.getD i true then (List.range i).all fun j => !mask.getD j true || ((closTbl ops (i + 1)).getD i []).contains j
      else (depsOf o).all fun j => !mask.getD j true) &&
  (List.range ops.size).all fun i => decide (i < k) || (List.range k).all fun j => ((closTbl ops (i + 1)).getD i []).contains j
set_option maxHeartbeats 1000000 in
theorem wp_region_chainflow {Q : Exit → Act → World → Prop} {rid : Nat} {a : Act} {w w0 : World} (k : Nat) (mask : List Bool) (hm : P.follows .mixedOrders = true) (hc : chainFB ops k mask = true) (hs0 : Since w0 w)
    (h : PFlow P ops w0 (fun A => TFlow P ops (Since w0) (fun A W => ∃ Inv : World → Prop, Inv W ∧ Flow P ops Inv (fun A' => ∀ W', Inv W' → Q .normal A' W') (ops.toList.drop k) A) (selT mask (ops.toList.take k)) A w.drew) (selF mask (ops.toList.take k)) a) : (Code.region rid ops true).wp P Q a w := by
  unfold chainFB at hc
  simp only [Bool.and_eq_true, decide_eq_true_eq] at hc
  obtain ⟨⟨⟨⟨hf, hml⟩, hkn⟩, hch⟩, htl2⟩ := hc
  have hok := flow_ok hf
  have hlt : mask.length = (ops.toList.take k).length := by simp; omega
  have hmk : ∀ i, i < k → ∃ b, mask[i]? = some b := fun i hi => ⟨_, List.getElem?_eq_getElem (by omega)⟩
  have hget : ∀ i o, i < k → ops[i]? = some o → (ops.toList.take k)[i]? = some o := fun i o hi ho => by
    rw [List.getElem?_take, if_pos hi]; simpa using ho
  have hmd : ∀ i b, mask[i]? = some b → mask.getD i true = b := fun i b hb => by rw [List.getD_eq_getElem?_getD, hb]; rfl
  have hml' : ∀ i b, mask[i]? = some b → i < k := fun i b hb => by have := (List.getElem?_eq_some_iff.1 hb).1; omega
  have tailAnc : ∀ i j, k ≤ i → i < ops.size → j < k → Anc ops j i := fun i j hki hi hj => by
    have := List.all_eq_true.1 htl2 i (List.mem_range.2 hi)
    rw [Bool.or_eq_true] at this
    rcases this with h1 | h1
    · simp at h1; omega
    · exact closTbl_sound (i + 1) i j (by simpa using List.all_eq_true.1 h1 j (List.mem_range.2 hj))
  have chT : ∀ i j, mask[i]? = some true → mask[j]? = some true → j < i → Anc ops j i := fun i j hi hj hji => by
    have hik := hml' i _ hi
    have ho : ops[i]? = some ops[i] := Array.getElem?_eq_getElem (by omega)
    have := List.all_eq_true.1 hch i (List.mem_range.2 hik)
    simp only [ho] at this
    rw [if_pos (hmd i _ hi)] at this
    have := List.all_eq_true.1 this j (List.mem_range.2 hji)
    rw [hmd j _ hj, Bool.not_true, Bool.false_or] at this
    exact closTbl_sound (i + 1) i j (by simpa using this)
  have chF : ∀ i o j, mask[i]? = some false → ops[i]? = some o → j ∈ depsOf o → mask[j]? = some false := fun i o j hi ho hj => by
    have hik := hml' i _ hi
    have hji := hok.back i o ho j hj
    have := List.all_eq_true.1 hch i (List.mem_range.2 hik)
    simp only [ho] at this
    rw [if_neg (by rw [hmd i _ hi]; simp)] at this
    have := List.all_eq_true.1 this j hj
    obtain ⟨b, hb⟩ := hmk j (by omega)
    rw [hmd j _ hb] at this
    cases b <;> simp_all
  obtain ⟨vals, F, h0, hfin, hst⟩ := pflow_frames _ a h
  have hpure : ∀ r, r ≤ mask.count false → FrameIs a ops (fun j => vals (rk false mask j)) (fun j => mask[j]? = some false ∧ rk false mask j < r) (F r) := by
    intro r
    induction r with
    | zero => intro _; rw [h0]; exact ⟨rfl, rfl, fun j _ _ hj => by have := hj.2; omega, fun _ _ => rfl⟩
    | succ r ih =>
      intro hr
      obtain ⟨i, hi1, hi2⟩ := rk_has (b := false) mask r (by omega)
      have hik := hml' i _ hi1
      have ho : ops[i]? = some ops[i] := Array.getElem?_eq_getElem (by omega)
      have hsel := selF_rk mask _ i hlt hi1
      rw [hget i _ hik ho, hi2] at hsel
      rw [(hst r _ hsel).2]
      have := ((ih (by omega)).put ho (fun j oj d hj hoj hd hd2 => by
        have := hok.dsts i _ (by omega) ho j oj (by have := hml' j _ hj.1; omega) hoj d hd hd2
        subst this
        have := hj.2
        omega)).same (E := fun j => mask[j]? = some false ∧ rk false mask j < r + 1) (fun j => by
          constructor
          · rintro (⟨a1, a2⟩ | rfl)
            · exact ⟨a1, by omega⟩
            · exact ⟨hi1, by omega⟩
          · rintro ⟨a1, a2⟩
            by_cases e : rk false mask j = r
            · exact .inr (rk_inj a1 hi1 (by omega))
            · exact .inl ⟨a1, by omega⟩)
      rw [show vals r = vals (rk false mask i) by rw [hi2]]
      exact this
  have hnF : (selF mask (ops.toList.take k)).length = mask.count false := selF_len _ _ hlt
  rw [hnF] at hfin
  let FIN : Act → World → Prop := fun A W => ∃ Inv : World → Prop, Inv W ∧ Flow P ops Inv (fun A' => ∀ W', Inv W' → Q .normal A' W') (ops.toList.drop k) A
  let J : (Nat → Prop) → Act → World → Prop := fun D a' W =>
    (Since w0 W ∧ (∀ j, D j → j < k) ∧ ∃ (V : Nat → Value) (q : Nat) (A : Act), (∀ j, mask[j]? = some false → V j = vals (rk false mask j)) ∧ (∀ j, mask[j]? = some true → (D j ↔ rk true mask j < q)) ∧
      FrameIs a ops V D a' ∧ FrameIs a ops V (fun j => mask[j]? = some false ∨ (mask[j]? = some true ∧ rk true mask j < q)) A ∧
      TFlow P ops (Since w0) FIN ((selT mask (ops.toList.take k)).drop q) A W) ∨
    (∃ (Inv : World → Prop) (V : Nat → Value) (G : Nat → Act), Inv W ∧ (∀ j, j < k → D j) ∧ FrameIs a ops V D a' ∧ (∀ i o, k ≤ i → ops[i]? = some o → StepOk P ops Inv o (G (i - k)) (V i)) ∧
      (∀ i, k ≤ i → i ≤ ops.size → FrameIs a ops V (fun j => j < i) (G (i - k))) ∧ ∀ W', Inv W' → Q .normal (G (ops.size - k)) W')
  have htl : (selT mask (ops.toList.take k)).length = mask.count true := selT_len _ _ hlt
  -- the first k are done
  have full : ∀ D a' W, J D a' W → (∀ j, j < k → D j) → ∃ (Inv : World → Prop) (V : Nat → Value) (G : Nat → Act), Inv W ∧ (∀ j, j < k → D j) ∧ FrameIs a ops V D a' ∧ (∀ i o, k ≤ i → ops[i]? = some o → StepOk P ops Inv o (G (i - k)) (V i)) ∧
      (∀ i, k ≤ i → i ≤ ops.size → FrameIs a ops V (fun j => j < i) (G (i - k))) ∧ ∀ W', Inv W' → Q .normal (G (ops.size - k)) W' := by
    intro D a' W hJ hD
    rcases hJ with ⟨hW, hDk, V, q, A, hV, hT, hfr, hfA, htf⟩ | hJ
    · have hq : mask.count true ≤ q := by
        by_cases e : mask.count true ≤ q
        · exact e
        · obtain ⟨i, hi1, hi2⟩ := rk_has (b := true) mask q (by omega)
          have := (hT i hi1).1 (hD i (hml' i _ hi1))
          omega
      have enil : (selT mask (ops.toList.take k)).drop q = [] := List.drop_eq_nil_of_le (by omega)
      rw [enil] at htf
      have ea : a' = A := hfr.ext hfA (fun j hj => by
        constructor
        · intro hj'
          obtain ⟨b, hb⟩ := hmk j (hDk j hj')
          cases b
          · exact .inl hb
          · exact .inr ⟨hb, (hT j hb).1 hj'⟩
        · rintro (hb | ⟨hb, _⟩) <;> exact hD j (hml' j _ hb))
      subst ea
      obtain ⟨Inv, hI, hfl⟩ : FIN a' W := htf
      obtain ⟨vt, G, g0, gfin, gst⟩ := flow_frames _ _ hfl
      have hlen2 : (ops.toList.drop k).length = ops.size - k := by simp
      rw [hlen2] at gfin
      have hget2 : ∀ i o, k ≤ i → ops[i]? = some o → (ops.toList.drop k)[i - k]? = some o := fun i o hi ho => by
        rw [List.getElem?_drop, show k + (i - k) = i by omega]; simpa using ho
      let V' : Nat → Value := fun j => if j < k then V j else vt (j - k)
      have v1 : ∀ j, j < k → V' j = V j := fun j hj => if_pos hj
      have v2 : ∀ j, k ≤ j → V' j = vt (j - k) := fun j hj => if_neg (by omega)
      have fr0 : FrameIs a ops V' D a' := hfr.vals2 (fun j _ hj => (v1 j (hDk j hj)).symm)
      refine ⟨Inv, V', G, hI, hD, fr0, fun i o hi ho => ?_, ?_, gfin⟩
      · rw [v2 i hi]
        exact (gst (i - k) o (hget2 i o hi ho)).1
      · have step : ∀ t, k + t ≤ ops.size → FrameIs a ops V' (fun j => j < k + t) (G t) := by
          intro t
          induction t with
          | zero =>
            intro _
            rw [g0]
            exact fr0.same (fun j => ⟨fun h => by have := hDk j h; omega, fun h => hD j (by omega)⟩)
          | succ t ih =>
            intro ht
            have hi' : k + t < ops.size := by omega
            have ho : ops[k + t]? = some ops[k + t] := Array.getElem?_eq_getElem hi'
            have hg := hget2 (k + t) _ (by omega) ho
            rw [show k + t - k = t by omega] at hg
            rw [(gst t _ hg).2]
            have := ((ih (by omega)).put ho (fun j oj d hj hoj hd hd2 => by
              have := hok.dsts (k + t) _ hi' ho j oj (by omega) hoj d hd hd2
              omega)).same (E := fun j => j < k + (t + 1)) (fun j => by show (j < k + t ∨ j = k + t) ↔ j < k + (t + 1); omega)
            rw [v2 (k + t) (by omega), show k + t - k = t by omega] at this
            exact this
        intro i hi hin
        have := step (i - k) (by omega)
        rwa [show k + (i - k) = i by omega] at this
    · exact hJ
  refine wp_region_inv2 hm hok.back J (.inl ⟨since_drew hs0, fun j hj => hj.elim, fun j => vals (rk false mask j), 0, F (mask.count false), fun j _ => rfl, fun j _ => ⟨fun h => h.elim, fun h => by omega⟩, ⟨rfl, rfl, fun j _ _ hj => hj.elim, fun _ _ => rfl⟩, ?_, ?_⟩) ?_ ?_
  · exact (hpure _ (Nat.le_refl _)).same (fun j => by
      constructor
      · rintro ⟨a1, -⟩; exact .inl a1
      · rintro (a1 | ⟨-, a2⟩)
        · exact ⟨a1, rk_lt_count a1⟩
        · omega)
  · rw [List.drop_zero]; exact hfin
  · intro D a' W i o hJ ho hDi hdep hcl
    have hin : i < ops.size := (Array.getElem?_eq_some_iff.1 ho).1
    have lookA : ∀ t ∈ o.looksAt ops, ∀ j oj, ops[j]? = some oj → oj.dst = some t → D j ∧ j ∈ depsOf o := fun t ht j oj hoj hd => by
      have := hok.looks i o hin ho t ht j oj (Array.getElem?_eq_some_iff.1 hoj).1 hoj hd
      exact ⟨hdep j this, this⟩
    have dist : ∀ j oj d, D j → ops[j]? = some oj → o.dst = some d → oj.dst ≠ some d := fun j oj d hj hoj hd hd2 => by
      have := hok.dsts i o hin ho j oj (Array.getElem?_eq_some_iff.1 hoj).1 hoj d hd hd2
      subst this
      exact hDi hj
    by_cases hik : i < k
    · -- one of the first k
      rcases hJ with ⟨hW, hDk, V, q, A, hV, hT, hfr, hfA, htf⟩ | ⟨_, _, _, _, h3, -⟩
      rotate_left
      · exact absurd (h3 i hik) hDi
      obtain ⟨b, hb⟩ := hmk i hik
      cases b with
      | false =>
        have hsel := selF_rk mask _ i hlt hb
        rw [hget i _ hik ho] at hsel
        obtain ⟨⟨hw, hrun⟩, -⟩ := hst _ _ hsel
        have hr := rk_lt_count hb
        obtain ⟨he, hw'⟩ := agree_exec (ops := ops) (a' := a') (A := F (rk false mask i)) (fun t ht => (hfr.vals2 (v' := V) (fun _ _ _ => rfl)).agree ((hpure _ (Nat.le_of_lt hr)).vals (v' := V) (fun j hj => (hV j hj.1).symm)) t (fun j oj hj hoj hd => by
          obtain ⟨d1, d2⟩ := lookA t ht j oj hoj hd
          have hjf := chF i o j hb ho d2
          exact ⟨d1, hjf, rk_lt (hok.back i o ho j d2) hjf⟩)) (fun cs b => hok.nosel i o cs b ho)
        rw [if_pos (hw'.trans hw)]
        refine .inl ?_
        unfold Oper.wp
        rw [he, hrun W hW]
        refine .inl ⟨hW, fun j hj => hj.elim (fun h => hDk j h) (fun h => by omega), V, q, A, hV, fun j hj => ?_, ?_, hfA, htf⟩
        · rw [← hT j hj]
          constructor
          · rintro (h | rfl)
            · exact h
            · rw [hb] at hj; cases hj
          · exact .inl
        · have := hfr.put (i := i) ho dist
          rwa [hV i hb] at this
      | true =>
        have hq : rk true mask i = q := by
          have h1 : ¬ rk true mask i < q := fun h => hDi ((hT i hb).2 h)
          by_cases e : rk true mask i = q
          · exact e
          · obtain ⟨j, hj1, hj2⟩ := rk_has (b := true) mask q (by have := rk_lt_count hb; omega)
            have hji : j < i := by
              rcases Nat.lt_trichotomy j i with h | h | h
              · exact h
              · subst h; omega
              · have := rk_lt h hb; omega
            have := anc_ready hcl ho hdep (chT i j hb hj1 hji)
            have := (hT j hj1).1 this
            omega
        have hsel := selT_rk mask _ i hlt hb
        rw [hget i _ hik ho, hq] at hsel
        have hqn : q < (selT mask (ops.toList.take k)).length := (List.getElem?_eq_some_iff.1 hsel).1
        rw [List.drop_eq_getElem_cons hqn, (List.getElem?_eq_some_iff.1 hsel).2] at htf
        obtain ⟨he, hw'⟩ := agree_exec (ops := ops) (a' := a') (A := A) (fun t ht => hfr.agree hfA t (fun j oj hj hoj hd => by
          have hjk : j < k := hj.elim (fun h => hDk j h) (fun h => h.elim (hml' j _) (fun h => hml' j _ h.1))
          obtain ⟨d1, d2⟩ := lookA t ht j oj hoj hd
          refine ⟨d1, ?_⟩
          obtain ⟨b, hb'⟩ := hmk j hjk
          cases b
          · exact .inl hb'
          · exact .inr ⟨hb', (hT j hb').1 d1⟩)) (fun cs b => hok.nosel i o cs b ho)
        have next : ∀ u W', Since w0 W' → TFlow P ops (Since w0) FIN ((selT mask (ops.toList.take k)).drop (q + 1)) (A.put o.dst u) W' → J (fun j => D j ∨ j = i) (a'.put o.dst u) W' := by
          intro u W' hS ht
          let V' : Nat → Value := fun j => if j = i then u else V j
          have e1 : ∀ j, j ≠ i → V' j = V j := fun j hj => if_neg hj
          have e2 : V' i = u := if_pos rfl
          refine .inl ⟨hS, fun j hj => hj.elim (fun h => hDk j h) (fun h => by omega), V', q + 1, A.put o.dst u, fun j hj => ?_, fun j hj => ?_, ?_, ?_, ht⟩
          · rw [e1 j (fun e => by subst e; rw [hb] at hj; cases hj)]; exact hV j hj
          · constructor
            · rintro (h | rfl)
              · have := (hT j hj).1 h; omega
              · omega
            · intro h
              by_cases e : rk true mask j = q
              · exact .inr (rk_inj hj hb (by omega))
              · exact .inl ((hT j hj).2 (by omega))
          · have := (hfr.vals2 (v' := V') (fun j _ hj => (e1 j (fun e => by subst e; exact hDi hj)).symm)).put (i := i) ho dist
            rwa [e2] at this
          · have := ((hfA.vals2 (v' := V') (fun j _ hj => (e1 j (fun e => by
              subst e
              rcases hj with hj | ⟨-, hj⟩
              · rw [hb] at hj; cases hj
              · omega)).symm)).put (i := i) ho (fun j oj d hj hoj hd hd2 => by
                have := hok.dsts i o hin ho j oj (Array.getElem?_eq_some_iff.1 hoj).1 hoj d hd hd2
                subst this
                rcases hj with hj | ⟨-, hj⟩
                · rw [hb] at hj; cases hj
                · omega)).same (E := fun j => mask[j]? = some false ∨ (mask[j]? = some true ∧ rk true mask j < q + 1)) (fun j => by
                constructor
                · rintro ((h | ⟨h, h'⟩) | rfl)
                  · exact .inl h
                  · exact .inr ⟨h, by omega⟩
                  · exact .inr ⟨hb, by omega⟩
                · rintro (h | ⟨h, h'⟩)
                  · exact .inl (.inl h)
                  · by_cases e : rk true mask j = q
                    · exact .inr (rk_inj h hb (by omega))
                    · exact .inl (.inr ⟨h, by omega⟩))
            rwa [e2] at this
        rcases htf with ⟨hw, hrun⟩ | ⟨hw, hrun⟩
        · rw [if_pos (hw'.trans hw)]
          refine .inl ?_
          unfold Oper.wp
          rw [he]
          generalize (execOp A.eval o).run P W = r at hrun ⊢
          cases r with
          | ok nx W' =>
            cases nx with
            | value u => exact next u W' hrun.1 hrun.2
            | skip => exact next undef W' hrun.1 hrun.2
            | row row args => exact Rows.mono hrun fun u W'' h => next u W'' h.1 h.2
            | enter f args =>
              simp only [Oper.upon]
              exact Calls.mono hrun fun e W'' ⟨u, he', h3, h4⟩ => by subst he'; exact next u W'' h3 h4
            | _ => exact hrun.elim
          | halt x W' => exact hrun.elim
        · rw [if_neg (by rw [hw'.trans hw]; simp)]
          exact next _ _ hW hrun
    · -- the flow behind the first k
      have hall : ∀ j, j < k → D j := fun j hj => anc_ready hcl ho hdep (tailAnc i j (by omega) hin hj)
      obtain ⟨Inv, V, G, hI, hD, hfr, hstp, hGf, hQ⟩ := full D a' W hJ hall
      obtain ⟨he, hw'⟩ := agree_exec (ops := ops) (a' := a') (A := G (i - k)) (fun t ht => hfr.agree (hGf i (by omega) (by omega)) t (fun j oj hj hoj hd => by
        obtain ⟨d1, d2⟩ := lookA t ht j oj hoj hd
        exact ⟨d1, hok.back i o ho j d2⟩)) (fun cs b => hok.nosel i o cs b ho)
      have next : ∀ W', Inv W' → J (fun j => D j ∨ j = i) (a'.put o.dst (V i)) W' := fun W' hI' =>
        .inr ⟨Inv, V, G, hI', fun j hj => .inl (hD j hj), hfr.put (i := i) ho dist, hstp, hGf, hQ⟩
      rcases hstp i o (by omega) ho W hI with ⟨h1, h2⟩ | ⟨h1, h2⟩
      · rw [if_pos (hw'.trans h1)]
        refine .inl ?_
        unfold Oper.wp
        rw [he]
        unfold Gives at h2
        generalize (execOp (G (i - k)).eval o).run P W = r at h2 ⊢
        cases r with
        | ok nx W' =>
          cases nx with
          | value u => simp only at h2; obtain ⟨rfl, h3⟩ := h2; exact next W' h3
          | skip => simp only at h2; obtain ⟨h4, h3⟩ := h2; simp only [Oper.upon]; rw [h4]; exact next W' h3
          | enter f args =>
            simp only at h2
            simp only [Oper.upon]
            exact h2.mono fun e W'' ⟨he', h3⟩ => by subst he'; exact next W'' h3
          | _ => exact h2.elim
        | halt x W' => exact h2.elim
      · rw [if_neg (by rw [hw'.trans h1]; simp)]
        have := next W hI
        rw [h2] at this
        exact this
  · intro D a' W hJ hall
    obtain ⟨Inv, V, G, hI, hD, hfr, hstp, hGf, hQ⟩ := full D a' W hJ (fun j hj => hall j (by omega))
    have ea : a' = G (ops.size - k) := hfr.ext (hGf ops.size hkn (Nat.le_refl _)) (fun j hj => ⟨fun _ => hj, fun _ => hall j hj⟩)
    rw [ea]
    exact hQ W hI
end
end Go.Proofs.YtomnaabadohecaaGreat
namespace Go.Proofs.YtomnaabadohecaaGreat
/-- the reference's test of identifiers -/
def sIdsB (ids : List Int) (nodes : Int) : Bool := ((List.range ids.length).all fun i => inB 1 999999 (ids.getD i 0) && !((ids.take i).contains (ids.getD i 0))) && ((ids.length : Int) == 0 || (ids.length : Int) == nodes)
theorem getD_of_lt {ids : List Int} {i : Nat} (h : i < ids.length) : ids.getD i 0 = ids[i] := by simp [List.getD_eq_getElem?_getD, h]
theorem takes_nodup (ids : List Int) : (∀ i (h : i < ids.length), ids[i] ∉ ids.take i) ↔ ids.Nodup := by
  unfold List.Nodup
  rw [List.pairwise_iff_getElem]
  constructor
  · intro h i j hi hj hij e
    refine h j hj (List.mem_iff_getElem.2 ⟨i, by simp; omega, ?_⟩)
    rw [List.getElem_take]; exact e
  · intro h i hi hm
    obtain ⟨j, hj, e⟩ := List.mem_iff_getElem.1 hm
    simp at hj
    rw [List.getElem_take] at e
    exact h j i (by omega) hi (by omega) e
theorem rising_iff (lo up : Int) (s : List Int) : risingB lo up s = true ↔ (∀ x ∈ s, inB lo up x = true) ∧ s.Pairwise (· < ·) := by
  unfold risingB
  rw [List.all_eq_true]
  constructor
  · intro h
    have h' : ∀ i (hl : i < s.length), inB lo up s[i] = true ∧ (i = 0 ∨ s.getD (i - 1) 0 < s[i]) := fun i hl => by
      have := h i (List.mem_range.2 hl)
      rw [getD_of_lt hl] at this
      simpa using this
    refine ⟨fun x hx => ?_, ?_⟩
    · obtain ⟨i, hi, rfl⟩ := List.mem_iff_getElem.1 hx
      exact (h' i hi).1
    · rw [List.pairwise_iff_getElem]
      intro i j hi hj hij
      induction j with
      | zero => omega
      | succ j ih =>
        have hs := (h' (j + 1) hj).2
        rw [Nat.add_sub_cancel, getD_of_lt (show j < s.length by omega)] at hs
        rcases Nat.lt_or_ge i j with h1 | h1
        · have := ih (by omega) h1
          omega
        · obtain rfl : i = j := by omega
          omega
  · rintro ⟨h1, h2⟩ i hi
    have hl := List.mem_range.1 hi
    rw [getD_of_lt hl]
    rw [List.pairwise_iff_getElem] at h2
    rw [Bool.and_eq_true]
    refine ⟨h1 _ (List.getElem_mem hl), ?_⟩
    rcases Nat.eq_zero_or_pos i with h0 | h0
    · simp [h0]
    · have := h2 (i - 1) i (by omega) hl (by omega)
      rw [getD_of_lt (show i - 1 < s.length by omega)]
      simp [this]
theorem sIds_iff (ids : List Int) (nodes : Int) : sIdsB ids nodes = true ↔ (∀ x ∈ ids, inB 1 999999 x = true) ∧ ids.Nodup ∧ ((ids.length : Int) = 0 ∨ (ids.length : Int) = nodes) := by
  unfold sIdsB
  rw [Bool.and_eq_true, List.all_eq_true, ← takes_nodup]
  constructor
  · rintro ⟨h, h2⟩
    have h' : ∀ i (hl : i < ids.length), inB 1 999999 ids[i] = true ∧ ids[i] ∉ ids.take i := fun i hl => by
      have := h i (List.mem_range.2 hl)
      rw [getD_of_lt hl] at this
      simpa using this
    refine ⟨fun x hx => ?_, fun i hl => (h' i hl).2, by simpa using h2⟩
    obtain ⟨i, hi, rfl⟩ := List.mem_iff_getElem.1 hx
    exact (h' i hi).1
  · rintro ⟨h1, h2, h3⟩
    refine ⟨fun i hi => ?_, by simpa using h3⟩
    have hl := List.mem_range.1 hi
    rw [getD_of_lt hl, Bool.and_eq_true]
    exact ⟨h1 _ (List.getElem_mem hl), by simpa using h2 i hl⟩
theorem sIds_eq (ids : List Int) (nodes : Int) : sIdsB ids nodes = idsB ids nodes := by
  rw [Bool.eq_iff_iff, sIds_iff]
  cases hids : ids with
  | nil => simp [idsB]
  | cons a l =>
    rw [← hids]
    have hne : ids.isEmpty = false := by rw [hids]; rfl
    have hl0 : ¬ (ids.length : Int) = 0 := by rw [hids]; simp; omega
    unfold idsB
    rw [hne, Bool.false_or, Bool.and_eq_true, rising_iff, beq_iff_eq]
    have hp := List.mergeSort_perm ids (fun x y => decide (x ≤ y))
    have hs : (ids.mergeSort fun x y => decide (x ≤ y)).Pairwise fun a b => decide (a ≤ b) = true :=
      List.pairwise_mergeSort (fun a b c h1 h2 => by simp at h1 h2 ⊢; omega) (fun a b => by simp; omega) ids
    constructor
    · rintro ⟨h1, h2, h3⟩
      refine ⟨by omega, fun x hx => h1 x (hp.mem_iff.1 hx), ?_⟩
      have hn := hp.nodup_iff.2 h2
      exact (hs.and hn).imp fun {a b} ⟨h, h'⟩ => by simp at h; omega
    · rintro ⟨h1, h2, h3⟩
      refine ⟨fun x hx => h2 x (hp.mem_iff.2 hx), hp.nodup_iff.1 (h3.imp fun {a b} h => by omega), .inr h1⟩
end Go.Proofs.YtomnaabadohecaaGreat
namespace Go.Proofs.YtomnaabadohecaaGreat
open Go.RowKit
def hasB (xs : List Int) (x : Int) : Bool := xs.contains x
set_option maxHeartbeats 1000000 in
theorem l1Has_any (v : Value) (xs : List Int) (x : Int) (w : World) (h : IntS w v xs) : Calls Tryz.prog 217 #[v, .int .i64 x] w fun e w' => e = .returned (.bool (hasB xs x)) ∧ w = w' := by
  obtain ⟨A, c, rfl, hlc, hm, hA⟩ := h
  unfold maxLen at hm
  have HA := Lib.hid hA
  clear hA
  go_enter Tryz.func217, Tryz.ntmps217
  go_wp2
  go_loop [9] (fun i => ∃ k : Nat, k ≤ xs.length ∧ i = .int .i64 k ∧ x ∉ xs.take k) (fun i => xs.length - (intOf i).toNat)
  case atStart => exact ⟨0, Nat.zero_le _, rfl, by simp⟩
  case round =>
    obtain ⟨k, hk, rfl, hno⟩ := hrel
    have Hno := Lib.hid hno
    clear hno
    by_cases hlt : k < xs.length
    · obtain ⟨y, hy⟩ := getx xs k hlt
      obtain ⟨b, off, rfl, hcell⟩ := HA.out k y hy
      have Hy := Lib.hid hy
      clear hy
      by_cases hxy : y = x
      · subst hxy
        go_wp2
        go_ret
        exact ⟨ret_true (by unfold hasB; simpa using List.mem_of_getElem? Hy.out), rfl⟩
      · go_wp2
        go_round
        case rel =>
          refine ⟨k + 1, by omega, by simp, ?_⟩
          rw [take_snoc Hy.out]
          simp only [List.mem_append, List.mem_singleton, not_or]
          exact ⟨Hno.out, fun e => hxy e.symm⟩
        case measure => simp [intOf]; omega
    · go_wp2
      go_ret
      have := Hno.out
      rw [take_all xs hlt] at this
      exact ⟨ret_false (by unfold hasB; simpa using this), rfl⟩
theorem IntS.take {w : World} {A : Option Addr} {c : Nat} {xs : List Int} (h : IntS w (.slice A xs.length c) xs) (k : Nat) (hk : k ≤ xs.length) : IntS w (.slice A k c) (xs.take k) := by
  obtain ⟨A', c', hv, hlc, hm, hA⟩ := h
  cases hv
  refine ⟨A, c, by simp [Nat.min_eq_left hk], by simp; omega, hm, fun j x hx => ?_⟩
  have hj : j < k := by have := lt_of_get hx; simp at this; omega
  rw [List.getElem?_take, if_pos hj] at hx
  exact hA j x hx
set_option maxHeartbeats 2000000 in
theorem neIds_any (v : Value) (ids : List Int) (nodes : Int) (w : World) (h : IntS w v ids) : Calls Tryz.prog 146 #[v, .int .i64 nodes] w fun e w' => e = .returned (.bool (sIdsB ids nodes)) ∧ w = w' := by
  have H := Lib.hid h
  obtain ⟨A, c, rfl, hlc, hm, hA⟩ := h
  unfold maxLen at hm
  have HA := Lib.hid hA
  clear hA
  go_enter Tryz.func146, Tryz.ntmps146
  go_wp2
  go_loop [9] (fun i => ∃ k : Nat, k ≤ ids.length ∧ i = .int .i64 k ∧ ∀ j, j < k → inB 1 999999 (ids.getD j 0) = true ∧ hasB (ids.take j) (ids.getD j 0) = false) (fun i => ids.length - (intOf i).toNat)
  case atStart => exact ⟨0, Nat.zero_le _, rfl, fun j hj => by omega⟩
  case round =>
    obtain ⟨k, hk, rfl, hno⟩ := hrel
    have Hno := Lib.hid hno
    clear hno
    by_cases hlt : k < ids.length
    · obtain ⟨y, hy⟩ := getx ids k hlt
      obtain ⟨b, off, rfl, hcell⟩ := HA.out k y hy
      have hgy : ids.getD k 0 = y := by simp [hy]
      have Hg := Lib.hid hgy
      clear hy hgy
      cases hi : inB 1 999999 y
      · go_wp2_with (go_at_call 107; refine (l1In_b _ _ _ _).mono ?_; rintro e w' ⟨rfl, rfl⟩)
        go_ret
        refine ⟨ret_false ?_, rfl⟩
        unfold sIdsB
        rw [Bool.and_eq_false_iff]
        left
        rw [List.all_eq_false]
        exact ⟨k, List.mem_range.2 hlt, by rw [Hg.out, hi]; simp⟩
      · cases hc : hasB (ids.take k) y
        · go_wp2_with (first | (go_at_call 107; refine (l1In_b _ _ _ _).mono ?_; rintro e w' ⟨rfl, rfl⟩) | (go_at_call 217; refine (l1Has_any _ (ids.take k) y _ (H.out.take k hk)).mono ?_; rintro e w' ⟨rfl, rfl⟩))
          go_round
          case rel =>
            refine ⟨k + 1, by omega, by simp, fun j hj => ?_⟩
            rcases Nat.lt_or_ge j k with h | h
            · exact Hno.out j h
            · obtain rfl : j = k := by omega
              rw [Hg.out]; exact ⟨hi, hc⟩
          case measure => simp [intOf]; omega
        · go_wp2_with (first | (go_at_call 107; refine (l1In_b _ _ _ _).mono ?_; rintro e w' ⟨rfl, rfl⟩) | (go_at_call 217; refine (l1Has_any _ (ids.take k) y _ (H.out.take k hk)).mono ?_; rintro e w' ⟨rfl, rfl⟩))
          go_ret
          refine ⟨ret_false ?_, rfl⟩
          unfold sIdsB
          rw [Bool.and_eq_false_iff]
          left
          rw [List.all_eq_false]
          exact ⟨k, List.mem_range.2 hlt, by rw [Hg.out, hi]; unfold hasB at hc; rw [hc]; simp⟩
    · have hall : Hid (sIdsB ids nodes = ((ids.length : Int) == 0 || (ids.length : Int) == nodes)) := by
        show _ = _
        unfold sIdsB
        rw [show ((List.range ids.length).all fun i => inB 1 999999 (ids.getD i 0) && !((ids.take i).contains (ids.getD i 0))) = true from List.all_eq_true.2 (fun j hj => by
          have := Hno.out j (by have := List.mem_range.1 hj; omega)
          unfold hasB at this
          rw [this.1, this.2]; rfl), Bool.true_and]
      by_cases h0 : (ids.length : Int) = 0
      · go_wp2
        go_ret
        exact ⟨ret_true (by rw [hall.out]; simp [h0]), rfl⟩
      · have hne : ¬ ids = [] := fun e => h0 (by simp [e])
        go_wp2
        go_ret
        refine ⟨ret_bool ?_, rfl⟩
        rw [hall.out, show ((ids.length : Int) == 0) = false by simpa using h0, Bool.false_or]
end Go.Proofs.YtomnaabadohecaaGreat
