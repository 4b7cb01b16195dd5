/- Parts of the proof: walks of functions and plain laws. -/
import Derived.Test.YtomnaabadohecaaGreatP8
import Derived.Test.YtomnaabadohecaaGreatP6
import Derived.Test.YtomnaabadohecaaGreatP7
import Derived.Test.YtomnaabadohecaaGreatP2
import Derived.ArgAppend
import Derived.Laws.CopyOwn
import Derived.Shelf.Bits.Mul64
import Derived.Test.YtomnaabadohecaaGreatP0
import Derived.LoopN
import Derived.RangeFuncNested
import Derived.RangeFuncBound
import Derived.RangeFuncCalls
import Derived.RangeFuncLeaves
import Derived.RangeFuncBox
import Derived.Shelf.Abstract
import Derived.Shelf.RegionOpen
import Derived.OwnWalkIn
import Derived.TacticsInMore
import Derived.LoopNIn
import Derived.LoopIn
import Derived.Test.YtomnaabadohecaaGreatP1
import Derived.Test.YtomnaabadohecaaGreatP4
import Derived.Test.YtomnaabadohecaaGreatP5
namespace Go.Proofs.YtomnaabadohecaaGreat
open Go.RowKit
/-! marks (written by tools/markgen.py) -/
def OwnPr (w : World) (base : Nat) (v1 v2 : Value) (x : Prob) (S : List Nat) : Prop := ∃ S1 S2 : List Nat, OwnII w base v1 x.nodes S1 ∧ OwnII w base v2 x.edges S2 ∧ S = S1 ++ S2 ∧ S.Nodup
theorem OwnPr.read {w : World} {base : Nat} {v1 v2 : Value} {x : Prob} {S : List Nat} (h : OwnPr w base v1 v2 x S) : PrIn w v1 v2 x := by
  obtain ⟨S1, S2, h1, h2, _, _⟩ := h
  exact ⟨h1.read, h2.read⟩
theorem OwnPr.range {w : World} {base : Nat} {v1 v2 : Value} {x : Prob} {S : List Nat} (h : OwnPr w base v1 v2 x S) : ∀ k ∈ S, base ≤ k ∧ k < w.heap.size := by
  obtain ⟨S1, S2, h1, h2, rfl, _⟩ := h
  intro k hk
  simp only [List.mem_append] at hk
  rcases hk with hk | hk
  · exact lawII.range h1 k hk
  · exact lawII.range h2 k hk
theorem OwnPr.stable {w' : World} {w : World} {base : Nat} {v1 v2 : Value} {x : Prob} {S : List Nat} (h : OwnPr w base v1 v2 x S) (hs : ∀ k ∈ S, w'.heap[k]? = w.heap[k]?) : OwnPr w' base v1 v2 x S := by
  obtain ⟨S1, S2, h1, h2, h8, h9⟩ := h
  refine ⟨S1, S2, lawII.stable h1 fun k hk => hs k (by rw [h8]; simp [hk]), lawII.stable h2 fun k hk => hs k (by rw [h8]; simp [hk]), h8, h9⟩
theorem OwnPr.keep {w' : World} {w : World} {base : Nat} {v1 v2 : Value} {x : Prob} {S : List Nat} (h : OwnPr w base v1 v2 x S) (hb : Below w.heap.size w w') : OwnPr w' base v1 v2 x S := h.stable fun k hk => hb.block k (h.range k hk).2
theorem OwnPr.mono {base' : Nat} {w : World} {base : Nat} {v1 v2 : Value} {x : Prob} {S : List Nat} (h : OwnPr w base v1 v2 x S) (hb : base' ≤ base) : OwnPr w base' v1 v2 x S := by
  obtain ⟨S1, S2, h1, h2, h8, h9⟩ := h
  exact ⟨S1, S2, lawII.mono h1 hb, lawII.mono h2 hb, h8, h9⟩
end Go.Proofs.YtomnaabadohecaaGreat
namespace Go.Proofs.YtomnaabadohecaaGreat
open Go.RowKit
end Go.Proofs.YtomnaabadohecaaGreat
namespace Go.Proofs.YtomnaabadohecaaGreat
open Go Go.RowKit
/-! A region that draws its order, each operation with a relation of its own to the values of the others. -/
section
variable {P : Program} {ops : Array Oper}
def upd (V : Nat → Value) (i : Nat) (u : Value) : Nat → Value := fun j => if j = i then u else V j
theorem upd_ne (V : Nat → Value) {i j : Nat} (u : Value) (h : j ≠ i) : upd V i u j = V j := if_neg h
theorem upd_self (V : Nat → Value) (i : Nat) (u : Value) : upd V i u i = u := if_pos rfl
def DStep (P : Program) (o : Oper) (A : Act) (W : World) (post : Value → World → Prop) : Prop :=
  match (execOp A.eval o).run P W with
  | .ok (.value u) W' => post u W'
  | .ok (.enter f args) W' => Calls P f args W' fun e W'' => ∃ u, e = .returned u ∧ post u W''
  | _ => False
theorem dstep_val {o : Oper} {A : Act} {W W' : World} {u : Value} {post : Value → World → Prop} (h : (execOp A.eval o).run P W = .ok (.value u) W') (hp : post u W') : DStep P o A W post := by
  unfold DStep; rw [h]; exact hp
/-- the relations as a list -/
def RL (l : List ((Nat → Value) → World → Prop)) : Nat → (Nat → Value) → World → Prop := fun j V W => match l[j]? with | some r => r V W | none => True
end
end Go.Proofs.YtomnaabadohecaaGreat
namespace Go.Proofs.YtomnaabadohecaaGreat
open Go Go.RowKit
/-! A region that draws its order, each operation with a relation of its own (DataFlow), and one store among them; the operations of `late` may come behind the store and only compute values. -/
section
variable {P : Program} {ops : Array Oper}
/-- what each operation of `own` made lies in blocks of its own -/
def GI (own : List Nat) (O : Nat → Value → World → Nat → Nat → Prop) (D : Nat → Prop) (V : Nat → Value) (W : World) : Prop :=
  ∃ I : Nat → Nat × Nat, (∀ i ∈ own, D i → O i (V i) W (I i).1 (I i).2 ∧ (I i).2 ≤ W.heap.size) ∧ ∀ i ∈ own, ∀ j ∈ own, i ≠ j → D i → D j → (I i).2 ≤ (I j).1 ∨ (I j).2 ≤ (I i).1
theorem GI.none (own : List Nat) (O : Nat → Value → World → Nat → Nat → Prop) (V : Nat → Value) (W : World) : GI own O (fun _ => False) V W := ⟨fun _ => (0, 0), fun _ _ h => h.elim, fun _ _ _ _ _ h => h.elim⟩
theorem GI.skip {own : List Nat} {O : Nat → Value → World → Nat → Nat → Prop} (hO : ∀ i u W W' lo hi, O i u W lo hi → Since W W' → O i u W' lo hi) {D : Nat → Prop} {V : Nat → Value} {W W' : World} (h : GI own O D V W) (hs : Since W W') {i : Nat} (hi : own.contains i = false) (u : Value) : GI own O (fun j => D j ∨ j = i) (upd V i u) W' := by
  obtain ⟨I, h1, h2⟩ := h
  have hne : ∀ j ∈ own, j ≠ i := fun j hj e => by subst e; simp at hi; exact hi hj
  refine ⟨I, fun j hj hd => ?_, fun j hj j' hj' hn hd hd' => h2 j hj j' hj' hn (hd.elim id fun e => absurd e (hne j hj)) (hd'.elim id fun e => absurd e (hne j' hj'))⟩
  obtain ⟨h3, h4⟩ := h1 j hj (hd.elim id fun e => absurd e (hne j hj))
  rw [upd_ne V u (hne j hj)]
  exact ⟨hO _ _ _ _ _ _ h3 hs, Nat.le_trans h4 hs.below.size⟩
theorem GI.add {own : List Nat} {O : Nat → Value → World → Nat → Nat → Prop} (hO : ∀ i u W W' lo hi, O i u W lo hi → Since W W' → O i u W' lo hi) {D : Nat → Prop} {V : Nat → Value} {W W' : World} (h : GI own O D V W) (hs : Since W W') {i : Nat} (hD : ¬ D i) {u : Value} (ho : O i u W' W.heap.size W'.heap.size) : GI own O (fun j => D j ∨ j = i) (upd V i u) W' := by
  obtain ⟨I, h1, h2⟩ := h
  obtain ⟨I', hI⟩ : ∃ I' : Nat → Nat × Nat, I' = fun j => if j = i then (W.heap.size, W'.heap.size) else I j := ⟨_, rfl⟩
  have hIi : I' i = (W.heap.size, W'.heap.size) := by rw [hI]; exact if_pos rfl
  have hIn : ∀ j, j ≠ i → I' j = I j := fun j e => by rw [hI]; exact if_neg e
  refine ⟨I', fun j hj hd => ?_, fun j hj j' hj' hn hd hd' => ?_⟩
  · by_cases e : j = i
    · subst e
      rw [upd_self, hIi]
      exact ⟨ho, Nat.le_refl _⟩
    · obtain ⟨h3, h4⟩ := h1 j hj (hd.elim id fun e' => absurd e' e)
      rw [upd_ne V u e, hIn j e]
      exact ⟨hO _ _ _ _ _ _ h3 hs, Nat.le_trans h4 hs.below.size⟩
  · by_cases e : j = i
    · have e' : j' ≠ i := fun e' => hn (e.trans e'.symm)
      subst e
      rw [hIi, hIn j' e']
      exact .inr (h1 j' hj' (hd'.elim id fun x => absurd x e')).2
    · by_cases e' : j' = i
      · subst e'
        rw [hIi, hIn j e]
        exact .inl (h1 j hj (hd.elim id fun x => absurd x e)).2
      · rw [hIn j e, hIn j' e']
        exact h2 j hj j' hj' hn (hd.elim id fun x => absurd x e) (hd'.elim id fun x => absurd x e')
theorem wp_region_dst {Q : Exit → Act → World → Prop} {rid : Nat} {a : Act} {w w0 : World} (k s : Nat) (late : List Nat) (R : Nat → (Nat → Value) → World → Prop) (G : (Nat → Prop) → (Nat → Value) → World → Prop) (st : (Nat → Value) → World → World) (hR : ∀ j V W W', R j V W → Since W W' → R j V W')
    (hloc : ∀ j V V' W, V j = V' j → (∀ o, ops[j]? = some o → ∀ d ∈ depsOf o, V d = V' d) → R j V W → R j V' W) (hRs : ∀ V W, R s V W) (hm : P.follows .mixedOrders = true) (hf : flowB ops k = true) (hkn : decide (k ≤ ops.size) = true) (hsk : decide (s < k) = true)
    (hanc : ((List.range k).all fun i => decide (i = s) || late.contains i || ((closTbl ops (s + 1)).getD s []).contains i) = true) (hs0 : Since w0 w) (hG0 : ∀ V W, Since w0 W → G (fun _ => False) V W)
    (hstep : ∀ i o, i < k → i ≠ s → ops[i]? = some o → ∀ D V W, Since w0 W → (∀ d ∈ depsOf o, R d V W) → ¬ D i → G D V W → Region.wanted o (yielded ops (putAll ops (List.range k) V a).tmps) = true ∧ DStep P o (putAll ops (List.range k) V a) W (fun u W' => Since W W' ∧ R i (upd V i u) W' ∧ G (fun j => D j ∨ j = i) (upd V i u) W'))
    (hpure : ∀ i o, i < k → i ≠ s → late.contains i = true → ops[i]? = some o → ∀ V W1, Since w0 W1 → (∀ d ∈ depsOf o, R d V W1) → Region.wanted o (yielded ops (putAll ops (List.range k) V a).tmps) = true ∧ ∃ u, (∀ W, (execOp (putAll ops (List.range k) V a).eval o).run P W = .ok (.value u) W) ∧ R i (upd V i u) W1 ∧ (∀ X, st (upd V i u) X = st V X) ∧ ∀ D, ¬ D i → G D V W1 → G (fun j => D j ∨ j = i) (upd V i u) W1)
    (hstore : ∀ o, ops[s]? = some o → o.dst = none ∧ ∀ V W, Since w0 W → (∀ d ∈ depsOf o, R d V W) → Region.wanted o (yielded ops (putAll ops (List.range k) V a).tmps) = true ∧ (execOp (putAll ops (List.range k) V a).eval o).run P W = .ok .skip (st V W))
    (hend : ∀ V W, Since w0 W → (∀ j, j < k → j ≠ s → R j V W) → G (fun j => j < k ∧ j ≠ s) V W → wpList P ops Q (ops.toList.drop k) (putAll ops (List.range k) V a) (st V W)) : (Code.region rid ops true).wp P Q a w := by
  have hok := flow_ok hf
  have hkn := of_decide_eq_true hkn
  have hsk := of_decide_eq_true hsk
  have frame : ∀ V, FrameIs a ops V (fun j => j < k) (putAll ops (List.range k) V a) := fun V => by
    have := frame_putAll (a := a) hok.dsts hkn V (List.range k) (fun _ => False) a (fun _ h => h.elim) (fun j hj => ⟨List.mem_range.1 hj, id⟩) List.nodup_range (FrameIs.start a V)
    exact this.same (fun j => by simp)
  let J : (Nat → Prop) → Act → World → Prop := fun D a' W =>
    (¬ D s ∧ Since w0 W ∧ (∀ j, D j → j < k) ∧ ∃ V, FrameIs a ops V D a' ∧ (∀ j, D j → R j V W) ∧ G D V W) ∨
    (D s ∧ (∀ j, D j → j < k) ∧ ∃ V W1, Since w0 W1 ∧ FrameIs a ops V D a' ∧ (∀ j, D j → j ≠ s → R j V W1) ∧ G (fun j => D j ∧ j ≠ s) V W1 ∧ W = st V W1) ∨
    (∃ m, k ≤ m ∧ m ≤ ops.size ∧ (∀ j, j < ops.size → (D j ↔ j < m)) ∧ wpList P ops Q (ops.toList.drop m) a' W)
  have full : ∀ D a' W, J D a' W → (∀ j, j < k → D j) → ∃ m, k ≤ m ∧ m ≤ ops.size ∧ (∀ j, j < ops.size → (D j ↔ j < m)) ∧ wpList P ops Q (ops.toList.drop m) a' W := by
    intro D a' W hJ hD
    rcases hJ with ⟨hn, -⟩ | ⟨-, hDk, V, W1, hW1, hfr, hV, hGG, rfl⟩ | hJ
    · exact absurd (hD s hsk) hn
    · have e : a' = putAll ops (List.range k) V a := hfr.ext (frame V) (fun j _ => ⟨hDk j, hD j⟩)
      subst e
      exact ⟨k, Nat.le_refl _, hkn, fun j _ => ⟨hDk j, hD j⟩, hend V W1 hW1 (fun j hj hjs => hV j (hD j hj) hjs) (by
        have e9 : (fun j => D j ∧ j ≠ s) = (fun j => j < k ∧ j ≠ s) := funext fun j => propext ⟨fun h => ⟨hDk j h.1, h.2⟩, fun h => ⟨hD j h.1, h.2⟩⟩
        rwa [e9] at hGG)⟩
    · exact hJ
  refine wp_region_inv2 hm hok.back J (.inl ⟨id, since_drew hs0, fun j hj => hj.elim, fun _ => undef, FrameIs.start a _, fun j hj => hj.elim, hG0 _ _ (since_drew hs0)⟩) ?_ ?_
  · intro D a' W i o hJ ho hDi hdep hcl
    have hin : i < ops.size := (Array.getElem?_eq_some_iff.1 ho).1
    by_cases hik : i < k
    · have agree : ∀ V, (∀ j, D j → j < k) → FrameIs a ops V D a' → (execOp a'.eval o = execOp (putAll ops (List.range k) V a).eval o) ∧ Region.wanted o (yielded ops a'.tmps) = Region.wanted o (yielded ops (putAll ops (List.range k) V a).tmps) := fun V hDk hfr =>
        agree_exec (ops := ops) (a' := a') (A := putAll ops (List.range k) V a) (fun t ht => hfr.agree (frame V) t (fun j oj hj hoj hd => by
          have hjk : j < k := hj.elim (fun h => hDk j h) id
          exact ⟨hdep j (hok.looks i o hik ho t ht j oj hjk hoj hd), hjk⟩)) (fun cs b => hok.nosel i o cs b ho)
      have dist : (∀ j, D j → j < k) → ∀ j oj d, D j → ops[j]? = some oj → o.dst = some d → oj.dst ≠ some d := fun hDk j oj d hj hoj hd hd2 => by
        have := hok.dsts i o hik ho j oj (hDk j hj) hoj d hd hd2
        subst this
        exact hDi hj
      have frput : ∀ V u, (∀ j, D j → j < k) → FrameIs a ops V D a' → FrameIs a ops (upd V i u) (fun j => D j ∨ j = i) (a'.put o.dst u) := fun V u hDk hfr => by
        have := (hfr.vals2 (v' := upd V i u) (fun j _ hj => (upd_ne V u (fun e => by subst e; exact hDi hj)).symm)).put (i := i) ho (dist hDk)
        rwa [upd_self] at this
      have keepR : ∀ V u X Y j, (∀ j, D j → j < k) → D j → R j V X → Since X Y → R j (upd V i u) Y := fun V u X Y j hDk hj hr hS => by
        have hji : j ≠ i := fun e => by subst e; exact hDi hj
        exact hloc j V _ Y (upd_ne V u hji).symm (fun oj hoj d hd => (upd_ne V u (fun e => by subst e; exact hDi (hcl j oj hj hoj d hd))).symm) (hR j V X Y hr hS)
      rcases hJ with ⟨hns, hW, hDk, V, hfr, hV, hGG⟩ | ⟨hDs, hDk, V, W1, hW1, hfr, hV, hGG, rfl⟩ | ⟨m, h1, h2, h3, _⟩
      · obtain ⟨he, hw'⟩ := agree V hDk hfr
        by_cases his : i = s
        · subst his
          obtain ⟨hdn, hst⟩ := hstore o ho
          obtain ⟨hw, hrun⟩ := hst V W hW (fun d hd => hV d (hdep d hd))
          rw [if_pos (hw'.trans hw)]
          refine .inl ?_
          unfold Oper.wp
          rw [he, hrun]
          refine .inr (.inl ⟨.inr rfl, fun j hj => hj.elim (hDk j) (fun e => by omega), V, W, hW, ?_, fun j hj hne => hj.elim (hV j) (fun e => absurd e hne), ?_, rfl⟩)
          · have := hfr.put (i := i) ho (dist hDk)
            rw [hdn] at this ⊢
            exact this
          · have e9 : (fun j => (D j ∨ j = i) ∧ j ≠ i) = D := funext fun j => propext ⟨fun h => h.1.elim id (fun e => absurd e h.2), fun h => ⟨.inl h, fun e => by subst e; exact hDi h⟩⟩
            rw [e9]
            exact hGG
        · obtain ⟨hw, hst⟩ := hstep i o hik his ho D V W hW (fun d hd => hV d (hdep d hd)) hDi hGG
          have next : ∀ u W', Since W W' → R i (upd V i u) W' → G (fun j => D j ∨ j = i) (upd V i u) W' → J (fun j => D j ∨ j = i) (a'.put o.dst u) W' := by
            intro u W' hS hRi hGi
            refine .inl ⟨fun h => h.elim hns (fun e => his e.symm), hW.after hS, fun j hj => hj.elim (hDk j) (fun e => by omega), upd V i u, frput V u hDk hfr, fun j hj => ?_, hGi⟩
            rcases hj with hj | rfl
            · exact keepR V u W W' j hDk hj (hV j hj) hS
            · exact hRi
          rw [if_pos (hw'.trans hw)]
          refine .inl ?_
          unfold Oper.wp
          rw [he]
          unfold DStep at hst
          generalize (execOp (putAll ops (List.range k) V a).eval o).run P W = r at hst ⊢
          cases r with
          | ok nx W' =>
            cases nx with
            | value u => exact next u W' hst.1 hst.2.1 hst.2.2
            | enter f args =>
              simp only [Oper.upon]
              exact Calls.mono hst fun e W'' ⟨u, he', h3, h4, h5⟩ => by subst he'; exact next u W'' h3 h4 h5
            | _ => exact hst.elim
          | halt x W' => exact hst.elim
      · obtain ⟨he, hw'⟩ := agree V hDk hfr
        have his : i ≠ s := fun e => by subst e; exact hDi hDs
        have hlate : late.contains i = true := by
          have h9 := List.all_eq_true.1 hanc i (List.mem_range.2 hik)
          simp only [Bool.or_eq_true, decide_eq_true_eq] at h9
          rcases h9 with (h9 | h9) | h9
          · exact absurd h9 his
          · exact h9
          · exact absurd (anc_closed hcl (closTbl_sound _ s i (List.contains_iff_mem.1 h9)) hDs) hDi
        obtain ⟨hw, u, hrun, hRi, hstu, hGi⟩ := hpure i o hik his hlate ho V W1 hW1 (fun d hd => by
          by_cases hds : d = s
          · subst hds; exact hRs V W1
          · exact hV d (hdep d hd) hds)
        rw [if_pos (hw'.trans hw)]
        refine .inl ?_
        unfold Oper.wp
        rw [he, hrun]
        refine .inr (.inl ⟨.inl hDs, fun j hj => hj.elim (hDk j) (fun e => by omega), upd V i u, W1, hW1, frput V u hDk hfr, fun j hj hne => ?_, ?_, (hstu W1).symm⟩)
        · rcases hj with hj | rfl
          · exact keepR V u W1 W1 j hDk hj (hV j hj hne) (since_refl _)
          · exact hRi
        · have e9 : (fun j => (D j ∨ j = i) ∧ j ≠ s) = (fun j => (D j ∧ j ≠ s) ∨ j = i) := funext fun j => propext ⟨fun h => h.1.elim (fun h' => .inl ⟨h', h.2⟩) .inr, fun h => h.elim (fun h' => ⟨.inl h'.1, h'.2⟩) (fun e => ⟨.inr e, fun e2 => his (e.symm.trans e2)⟩)⟩
          rw [e9]
          exact hGi _ (fun h => hDi h.1) hGG
      · exact absurd ((h3 i hin).2 (by omega)) hDi
    · have hall : ∀ j, j < i → D j := fun j hj => anc_ready hcl ho hdep (hok.tail i (by omega) hin j hj)
      obtain ⟨m, h1, h2, h3, h4⟩ := full D a' W hJ (fun j hj => hall j (by omega))
      have hmi : m = i := by
        by_cases e1 : i < m
        · exact absurd ((h3 i hin).2 e1) hDi
        · by_cases e2 : m < i
          · have := (h3 m (by omega)).1 (hall m e2); omega
          · omega
      subst hmi
      have hdr : ops.toList.drop m = o :: ops.toList.drop (m + 1) := by
        have : m < ops.toList.length := by simpa using hin
        rw [List.drop_eq_getElem_cons this]
        congr 1
        have := (Array.getElem?_eq_some_iff.1 ho).2
        simpa using this
      rw [hdr] at h4
      unfold wpList at h4
      have next : ∀ a W, wpList P ops Q (ops.toList.drop (m + 1)) a W → J (fun j => D j ∨ j = m) a W := fun a W h => .inr (.inr ⟨m + 1, by omega, by omega, fun j hj => by
        constructor
        · rintro (h | rfl)
          · have := (h3 j hj).1 h; omega
          · omega
        · intro h
          by_cases e : j = m
          · exact .inr e
          · exact .inl ((h3 j hj).2 (by omega)), h⟩)
      split
      · rename_i hw
        rw [if_pos hw] at h4
        exact h4.imp (Oper.wp_mono next) id
      · rename_i hw
        rw [if_neg hw] at h4
        exact next _ _ h4
  · intro D a' W hJ hall
    obtain ⟨m, h1, h2, h3, h4⟩ := full D a' W hJ (fun j hj => hall j (by omega))
    have hmn : m = ops.size := by
      by_cases e : m < ops.size
      · have := (h3 m e).1 (hall m e); omega
      · omega
    subst hmn
    rw [List.drop_eq_nil_of_le (by simp)] at h4
    exact h4
theorem wp_region_dstl {Q : Exit → Act → World → Prop} {rid : Nat} {a : Act} {w w0 : World} (L : List ((Nat → Value) → World → Prop)) (G : (Nat → Prop) → (Nat → Value) → World → Prop) (k s : Nat) (late : List Nat) (st : (Nat → Value) → World → World) (hR : ∀ r ∈ L, ∀ V W W', r V W → Since W W' → r V W')
    (hloc : ∀ (j : Nat) r, L[j]? = some r → ∀ V V' W, V j = V' j → (∀ o, ops[j]? = some o → ∀ d ∈ depsOf o, V d = V' d) → r V W → r V' W) (hRs : ∀ V W, RL L s V W) (hm : P.follows .mixedOrders = true) (hf : flowB ops k = true) (hkn : decide (k ≤ ops.size) = true) (hsk : decide (s < k) = true)
    (hanc : ((List.range k).all fun i => decide (i = s) || late.contains i || ((closTbl ops (s + 1)).getD s []).contains i) = true) (hs0 : Since w0 w) (hG0 : ∀ V W, Since w0 W → G (fun _ => False) V W)
    (hstep : ∀ i o, i < k → i ≠ s → ops[i]? = some o → ∀ D V W, Since w0 W → (∀ d ∈ depsOf o, RL L d V W) → ¬ D i → G D V W → Region.wanted o (yielded ops (putAll ops (List.range k) V a).tmps) = true ∧ DStep P o (putAll ops (List.range k) V a) W (fun u W' => Since W W' ∧ RL L i (upd V i u) W' ∧ G (fun j => D j ∨ j = i) (upd V i u) W'))
    (hpure : ∀ i o, i < k → i ≠ s → late.contains i = true → ops[i]? = some o → ∀ V W1, Since w0 W1 → (∀ d ∈ depsOf o, RL L d V W1) → Region.wanted o (yielded ops (putAll ops (List.range k) V a).tmps) = true ∧ ∃ u, (∀ W, (execOp (putAll ops (List.range k) V a).eval o).run P W = .ok (.value u) W) ∧ RL L i (upd V i u) W1 ∧ (∀ X, st (upd V i u) X = st V X) ∧ ∀ D, ¬ D i → G D V W1 → G (fun j => D j ∨ j = i) (upd V i u) W1)
    (hstore : ∀ o, ops[s]? = some o → o.dst = none ∧ ∀ V W, Since w0 W → (∀ d ∈ depsOf o, RL L d V W) → Region.wanted o (yielded ops (putAll ops (List.range k) V a).tmps) = true ∧ (execOp (putAll ops (List.range k) V a).eval o).run P W = .ok .skip (st V W))
    (hend : ∀ V W, Since w0 W → (∀ j, j < k → j ≠ s → RL L j V W) → G (fun j => j < k ∧ j ≠ s) V W → wpList P ops Q (ops.toList.drop k) (putAll ops (List.range k) V a) (st V W)) : (Code.region rid ops true).wp P Q a w := by
  refine wp_region_dst k s late (RL L) G st (fun j V W W' h hs => ?_) (fun j V V' W h1 h2 h => ?_) hRs hm hf hkn hsk hanc hs0 hG0 hstep hpure hstore hend
  · unfold RL at h ⊢
    cases hj : L[j]? with
    | none => trivial
    | some r => rw [hj] at h; exact hR r (List.mem_of_getElem? hj) V W W' h hs
  · unfold RL at h ⊢
    cases hj : L[j]? with
    | none => trivial
    | some r => rw [hj] at h; exact hloc j r hj V V' W h1 h2 h
end
end Go.Proofs.YtomnaabadohecaaGreat
namespace Go.Proofs.YtomnaabadohecaaGreat
open Go.RowKit
/-! the reference's test of a machine -/
def maRowB (xs : List Int) (many most : Int) : Bool := ((xs.length : Int) == many) && allB xs 0 (most - 1)
theorem maRow_any (v : Value) (xs : List Int) (many most : Int) (hm : 0 ≤ most ∧ most ≤ 1000000) (w : World) (h : IntS w v xs) :
    Calls Tryz.prog 194 #[v, .int .i64 many, .int .i64 most] w fun e w' => e = .returned (.bool (maRowB xs many most)) ∧ w = w' := by
  have H := Lib.hid h
  obtain ⟨A, c, rfl, hlc, hm2, _⟩ := h
  unfold maxLen at hm2
  have mw : IntKind.i64.wrap (most - 1) = most - 1 := wr64 _ (by omega) (by omega)
  cases hb : ((xs.length : Int) == many)
  · have hr := Lib.hid (show maRowB xs many most = false by simp [maRowB, hb])
    go_enter Tryz.func194, Tryz.ntmps194
    go_wp2
    go_ret
    exact ⟨ret_false hr.out, rfl⟩
  · have hr := Lib.hid (show maRowB xs many most = allB xs 0 (most - 1) by simp [maRowB, hb])
    go_enter Tryz.func194, Tryz.ntmps194
    go_wp2_with fail
    refine (l1All_b _ xs _ _ _ H.out).mono ?_
    rintro e w' ⟨rfl, rfl⟩
    go_wp2
    go_ret
    exact ⟨ret_bool hr.out.symm, rfl⟩
def clB (m : Mac) (c : Cl) : Bool := inB 0 (m.states - 1) c.state && inB 0 (m.states - 1) c.next && decide ((c.inbox.length : Int) ≤ m.degree) && allB c.inbox (-1) (m.messages - 1)
def macNums (m : Mac) : Bool := inB 0 6 m.degree && inB 1 12 m.states && inB 1 6 m.messages
def macLens (m : Mac) : Bool := ((m.start.length : Int) == m.degree + 1) && inB 1 10 ((m.start.getD 0 []).length : Int) && ((m.send.length : Int) == m.states) && decide ((m.clauses.length : Int) ≤ 60) && ((m.output.length : Int) == m.states) && allB m.output (-1) 9
def macOk (m : Mac) : Bool := macNums m && macLens m && m.start.all (fun l => maRowB l ((m.start.getD 0 []).length : Int) m.states) && m.send.all (fun l => maRowB l m.degree m.messages) && m.clauses.all (clB m)
end Go.Proofs.YtomnaabadohecaaGreat
namespace Go.Proofs.YtomnaabadohecaaGreat
open Go.RowKit
/-! distances from a node, by a walk that grows -/
def bstep (cur : Int) (st : List Int × List Int) (x : Int) : List Int × List Int := if st.1.getD x.toNat 0 < 0 then (st.1.set x.toNat (st.1.getD cur.toNat 0 + 1), st.2 ++ [x]) else st
def bfsStart (n : Net) (v : Nat) : List Int × List Int := ((List.replicate n.ends.length (-1)).set v 0, [(v : Int)])
structure BI (N : Nat) (st : List Int × List Int) : Prop where
  len : st.1.length = N
  walk : ∀ x ∈ st.2, 0 ≤ x ∧ x < N
  cnt : st.2.length + st.1.countP (fun x => decide (x < 0)) = N
  val : ∀ x ∈ st.1, -1 ≤ x ∧ x < st.2.length
theorem BI.start {n : Net} {v : Nat} (hv : v < n.ends.length) : BI n.ends.length (bfsStart n v) where
  len := by simp [bfsStart]
  walk := fun x hx => by simp [bfsStart] at hx; omega
  cnt := by
    unfold bfsStart
    rw [List.countP_set (by simpa using hv)]
    simp [List.countP_replicate]
    omega
  val := fun x hx => by
    unfold bfsStart at hx ⊢
    rcases List.mem_or_eq_of_mem_set hx with hx | rfl
    · have := List.eq_of_mem_replicate hx
      subst this
      simp
    · simp
theorem BI.step {N : Nat} {st : List Int × List Int} (h : BI N st) {cur x : Int} (hc : 0 ≤ cur ∧ cur < N) (hx : 0 ≤ x ∧ x < N) : BI N (bstep cur st x) := by
  unfold bstep
  split
  · rename_i hneg
    have hxl : x.toNat < st.1.length := by rw [h.len]; omega
    have hcl : cur.toNat < st.1.length := by rw [h.len]; omega
    have hx1 : st.1[x.toNat] < 0 := by rwa [List.getD_eq_getElem?_getD, List.getElem?_eq_getElem hxl] at hneg
    have hcv : -1 ≤ st.1.getD cur.toNat 0 ∧ st.1.getD cur.toNat 0 < st.2.length := by
      rw [List.getD_eq_getElem?_getD, List.getElem?_eq_getElem hcl]
      exact h.val _ (List.getElem_mem hcl)
    obtain ⟨q, hq⟩ : ∃ q, q = st.1.getD cur.toNat 0 := ⟨_, rfl⟩
    rw [← hq] at hcv ⊢
    refine ⟨by simp [h.len], fun y hy => ?_, ?_, fun y hy => ?_⟩
    · rcases List.mem_append.1 hy with hy | hy
      · exact h.walk y hy
      · simp at hy; subst hy; exact hx
    · have h2 := h.cnt
      have h3 : 0 < st.1.countP (fun x => decide (x < 0)) := List.countP_pos_iff.2 ⟨_, List.getElem_mem hxl, by simpa using hx1⟩
      have e1 : (decide (st.1[x.toNat] < 0)) = true := by simpa using hx1
      have e2 : (decide (q + 1 < 0)) = false := by simp; omega
      show (st.2 ++ [x]).length + _ = _
      rw [List.countP_set hxl, e1, e2, List.length_append]
      simp
      omega
    · show _ ∧ y < ((st.2 ++ [x]).length : Nat)
      rw [List.length_append]
      rcases List.mem_or_eq_of_mem_set hy with hy | rfl
      · have := h.val y hy; simp; omega
      · simp; omega
  · exact h
end Go.Proofs.YtomnaabadohecaaGreat
namespace Go.Proofs.YtomnaabadohecaaGreat
open Go Go.RowKit
/-! A region that draws its order: reads, a call that makes a row of integers, a new variable of type int, a slot for the row. -/
def I1 (W : World) (b : Nat) (x : Int) : Prop := W.heap[b]? = some (.cells #[.int .i64 x] 3)
theorem I1.cells {W : World} {b : Nat} {x : Int} (h : I1 W b x) : W.cell? ⟨b, 0, none⟩ = some (.int .i64 x) ∧ W.frozen? ⟨b, 0, none⟩ = false := by
  unfold I1 at h
  simp [World.cell?, World.frozen?, h]
theorem I1.lt {W : World} {b : Nat} {x : Int} (h : I1 W b x) : b < W.heap.size := (Array.getElem?_eq_some_iff.1 h).1
theorem I1.since {W W' : World} {b : Nat} {x : Int} (h : I1 W b x) (hs : Since W W') : I1 W' b x := (hs.below.block b h.lt).trans h
theorem I1.set {W : World} {b : Nat} {x : Int} (h : I1 W b x) (y : Int) : I1 (W.setCell ⟨b, 0, none⟩ (.int .i64 y)) b y := by
  unfold I1 at *
  simp [World.setCell, Array.getElem?_modify, h]
theorem I1.new (W : World) (x : Int) : I1 (W.alloc (.cells #[.int .i64 x] 3)) W.heap.size x := by
  show (W.heap.push _)[W.heap.size]? = _
  rw [Array.getElem?_push_size]
section
variable {ops : Array Oper}
end
end Go.Proofs.YtomnaabadohecaaGreat
namespace Go.Proofs.YtomnaabadohecaaGreat
open Go.RowKit
end Go.Proofs.YtomnaabadohecaaGreat
namespace Go.Proofs.YtomnaabadohecaaGreat
open Go.RowKit
/-! edges: rows of four integers -/
abbrev Ed := Int × Int × Int × Int
def encD (e : Ed) : List Value := [.int .i64 e.1, .int .i64 e.2.1, .int .i64 e.2.2.1, .int .i64 e.2.2.2]
def OwnD (w : World) (base : Nat) (v : Value) (xs : List Ed) : Prop := w.ownsRow base 192 4 v xs.length (xs.flatMap encD)
theorem encD_get : ∀ {xs : List Ed} {k : Nat} {x : Ed}, xs[k]? = some x → (xs.flatMap encD)[k * 4]? = some (.int .i64 x.1) ∧ (xs.flatMap encD)[k * 4 + 1]? = some (.int .i64 x.2.1) ∧ (xs.flatMap encD)[k * 4 + 2]? = some (.int .i64 x.2.2.1) ∧ (xs.flatMap encD)[k * 4 + 3]? = some (.int .i64 x.2.2.2)
  | [], _, _, h => by simp at h
  | y :: xs, 0, x, h => by simp at h; subst h; simp [encD]
  | y :: xs, k + 1, x, h => by
    obtain ⟨h1, h2, h3, h4⟩ := encD_get (xs := xs) (k := k) (x := x) (by simpa using h)
    have e : ∀ j, ((y :: xs).flatMap encD)[(k + 1) * 4 + j]? = (xs.flatMap encD)[k * 4 + j]? := fun j => by
      rw [List.flatMap_cons, List.getElem?_append_right (by simp [encD]; omega)]
      congr 1
      simp [encD]; omega
    exact ⟨(e 0).trans h1, (e 1).trans h2, (e 2).trans h3, (e 3).trans h4⟩
theorem OwnD.keep {w w' : World} {base : Nat} {v : Value} {xs : List Ed} (h : OwnD w base v xs) (hb : Since w w') : OwnD w' base v xs := ownsRow_stable h fun k hk => hb.below.block k (World.ownsRow.lt h k (by simpa using hk)).2
theorem OwnD.mono {w : World} {base base' : Nat} {v : Value} {xs : List Ed} (h : OwnD w base v xs) (hb : base' ≤ base) : OwnD w base' v xs := ownsRow_mono h hb
/-- a row of edges, for reading -/
def EdgeS (W : World) (v : Value) (xs : List Ed) : Prop := ∃ A c, v = .slice A xs.length c ∧ c ≤ maxLen ∧ xs.length ≤ c ∧ ∀ k x, xs[k]? = some x → ∃ b, A = some ⟨b, 0, none⟩ ∧ W.cell? ⟨b, k * 4, none⟩ = some (.int .i64 x.1) ∧ W.cell? ⟨b, k * 4 + 1, none⟩ = some (.int .i64 x.2.1) ∧ W.cell? ⟨b, k * 4 + 2, none⟩ = some (.int .i64 x.2.2.1) ∧ W.cell? ⟨b, k * 4 + 3, none⟩ = some (.int .i64 x.2.2.2)
theorem OwnD.read {w : World} {base : Nat} {v : Value} {xs : List Ed} (h : OwnD w base v xs) : EdgeS w v xs := by
  have h' := h
  rcases h.2 with ⟨rfl, hn⟩ | ⟨g, cap, cur, rfl, hb, hg, hnc, hcm, hsz, htk⟩
  · have : xs = [] := List.eq_nil_of_length_eq_zero hn
    subst this
    exact ⟨none, 0, rfl, Nat.zero_le _, Nat.le_refl _, fun k x hk => by simp at hk⟩
  · refine ⟨_, cap, rfl, hcm, hnc, fun k x hk => ⟨g, rfl, ?_⟩⟩
    obtain ⟨h1, h2, h3, h4⟩ := encD_get hk
    have hkl := lt_of_get hk
    exact ⟨by rw [World.ownsRow.cellAt (cap := cap) h' _ (by omega)]; exact h1, by rw [World.ownsRow.cellAt (cap := cap) h' _ (by omega)]; exact h2, by rw [World.ownsRow.cellAt (cap := cap) h' _ (by omega)]; exact h3, by rw [World.ownsRow.cellAt (cap := cap) h' _ (by omega)]; exact h4⟩
end Go.Proofs.YtomnaabadohecaaGreat
namespace Go.Proofs.YtomnaabadohecaaGreat
open Go.RowKit
end Go.Proofs.YtomnaabadohecaaGreat
namespace Go.Proofs.YtomnaabadohecaaGreat
open Go.RowKit
end Go.Proofs.YtomnaabadohecaaGreat
namespace Go.Proofs.YtomnaabadohecaaGreat
open Go.RowKit
/-! a slice of integers of the call's own that begins anywhere in its row (a queue) -/
def QA (W : World) (base g off cap : Nat) (xs : List Int) : Prop :=
  base ≤ g ∧ xs.length ≤ cap ∧ cap ≤ maxLen ∧ ∃ cur : Array Value, W.heap[g]? = some (.cells cur 3 (0, 0)) ∧ off + cap ≤ cur.size ∧ ∀ j x, xs[j]? = some x → cur[off + j]? = some (.int .i64 x)
theorem QA.cell {W : World} {base g off cap : Nat} {xs : List Int} (h : QA W base g off cap xs) {j : Nat} {x : Int} (hx : xs[j]? = some x) : W.cell? ⟨g, off + j, none⟩ = some (.int .i64 x) := by
  obtain ⟨-, -, -, cur, h1, -, h3⟩ := h
  simp [World.cell?, h1, h3 j x hx]
theorem QA.lt {W : World} {base g off cap : Nat} {xs : List Int} (h : QA W base g off cap xs) : g < W.heap.size := by
  obtain ⟨-, -, -, cur, h1, -⟩ := h
  exact (Array.getElem?_eq_some_iff.1 h1).1
theorem QA.stable {W W' : World} {base g off cap : Nat} {xs : List Int} (h : QA W base g off cap xs) (hs : W'.heap[g]? = W.heap[g]?) : QA W' base g off cap xs := by
  obtain ⟨h1, h2, h3, cur, h4, h5⟩ := h
  exact ⟨h1, h2, h3, cur, hs.trans h4, h5⟩
theorem QA.since {W W' : World} {base g off cap : Nat} {xs : List Int} (h : QA W base g off cap xs) (hs : Since W W') : QA W' base g off cap xs := h.stable (hs.below.block g h.lt)
theorem QA.tail {W : World} {base g off cap : Nat} {x : Int} {xs : List Int} (h : QA W base g off cap (x :: xs)) : QA W base g (off + 1) (cap - 1) xs := by
  obtain ⟨h1, h2, h3, cur, h4, h5, h6⟩ := h
  rw [List.length_cons] at h2
  exact ⟨h1, by omega, by omega, cur, h4, by omega, fun j y hy => by
    have := h6 (j + 1) y (by simpa using hy)
    rwa [show off + (j + 1) = off + 1 + j by omega] at this⟩
theorem QA.nil {W : World} {base g off cap : Nat} {xs : List Int} (h : QA W base g off cap xs) : QA W base g off 0 [] := by
  obtain ⟨h1, h2, h3, cur, h4, h5, h6⟩ := h
  exact ⟨h1, Nat.le_refl _, Nat.zero_le _, cur, h4, by omega, fun j y hy => by simp at hy⟩
theorem QA.one (W : World) (base : Nat) (x : Int) (h : base ≤ W.heap.size) : QA (W.alloc (.cells #[.int .i64 x] 3)) base W.heap.size 0 1 [x] := by
  refine ⟨h, Nat.le_refl _, by simp [maxLen], #[.int .i64 x], ?_, by simp, fun j y hy => ?_⟩
  · show (W.heap.push _)[W.heap.size]? = _
    rw [Array.getElem?_push_size]
  · have := lt_of_get hy
    simp at this
    subst this
    simpa using hy
end Go.Proofs.YtomnaabadohecaaGreat
namespace Go.Proofs.YtomnaabadohecaaGreat
open Go.RowKit
def repRow (x : Int) (N j : Nat) : List Value := List.replicate j (.int .i64 x) ++ List.replicate (N - j) (.int .i64 0)
theorem repRow_len {x : Int} {N j : Nat} (h : j ≤ N) : (repRow x N j).length = N := by simp [repRow]; omega
theorem repRow_splice {x : Int} {N j m : Nat} (h : j + m ≤ N) : splice (repRow x N j) j (List.replicate m (.int .i64 x)) = repRow x N (j + m) := by
  unfold splice repRow
  rw [List.take_append_of_le_length (by simp), List.take_replicate, Nat.min_self, List.length_replicate, List.drop_append, List.drop_replicate, List.length_replicate, List.drop_replicate, show j - (j + m) = 0 by omega, show N - j - (j + m - j) = N - (j + m) by omega, List.replicate_zero, List.nil_append, ← List.append_assoc, List.replicate_append_replicate]
theorem own_rep {w : World} {base g N : Nat} {x : Int} (h : w.heap[g]? = some (.cells (repRow x N N).toArray 3 (0, 0))) (hb : base ≤ g) (hN : N ≤ 1000000) : Own w base (.slice (some ⟨g, 0, none⟩) N N) (List.replicate N x) := by
  unfold Own
  refine ⟨by simp, .inr ⟨g, N, _, by simp, hb, h, by simp, by unfold maxLen; omega, by simp [repRow], ?_⟩⟩
  simp [repRow]
theorem repRow_cell {w : World} {g N j : Nat} {x : Int} (h : w.heap[g]? = some (.cells (repRow x N j).toArray 3 (0, 0))) {i : Nat} (hi : i < j) : w.cell? ⟨g, i, none⟩ = some (.int .i64 x) := by
  have : (repRow x N j)[i]? = some (.int .i64 x) := by
    unfold repRow
    rw [List.getElem?_append_left (by simpa using hi)]
    simp [hi]
  simp [World.cell?, h, this]
theorem rep_src {w : World} {b : Nat} {x : Int} (h : w.cell? ⟨b, 0, none⟩ = some (.int .i64 x)) {j : Nat} {v : Value} (hj : (List.replicate 1 (Value.int .i64 x))[j]? = some v) : w.cell? ((⟨b, 0, none⟩ : Addr).add j) = some v := by
  have h1 := lt_of_get hj
  simp at h1
  subst h1
  simp at hj
  subst hj
  rw [Go.Addr.add_lit]
  exact h
theorem rep_src2 {w : World} {g N j m : Nat} {x : Int} (h : w.heap[g]? = some (.cells (repRow x N j).toArray 3 (0, 0))) (hm : m ≤ j) {i : Nat} {v : Value} (hi : (List.replicate m (Value.int .i64 x))[i]? = some v) : w.cell? ((⟨g, 0, none⟩ : Addr).add i) = some v := by
  have h1 := lt_of_get hi
  rw [List.length_replicate] at h1
  rw [List.getElem?_replicate, if_pos h1] at hi
  rw [← Option.some.inj hi, Go.Addr.add_lit, Nat.zero_add]
  exact repRow_cell h (by omega)
set_option maxRecDepth 100000 in
set_option maxHeartbeats 4000000 in
theorem repeat1_any (b c : Nat) (x : Int) (N : Nat) (w : World) (hN : 1 ≤ N) (hN2 : N ≤ 1000000) (hc : w.cell? ⟨b, 0, none⟩ = some (.int .i64 x)) :
    Calls Tryz.prog 164 #[.slice (some ⟨b, 0, none⟩) 1 c, .int .i64 N] w fun e w' => ∃ u, e = .returned u ∧ Own w' w.heap.size u (List.replicate N x) ∧ Below w.heap.size w w' := by
  have e1 : IntKind.u64.wrap (N : Int) = N := IntWalk.u64_in _ (by omega)
  have hm := Tryz.bits_Mul 1 N (by omega) (by omega) w
  rw [show (1 * N / 18446744073709551616 : Nat) = 0 by omega, show (1 * N % 18446744073709551616 : Nat) = N by omega] at hm
  have Hm := Lib.hid hm
  have e2 : IntKind.i64.wrap (N : Int) = N := wr64 _ (by omega) (by omega)
  have m2 := run_mk_ints N hN2
  have Hc := Lib.hid hc
  have hn0 : ¬ ((N : Int) < 0) := by omega
  have hbig : ¬ (9223372036854775807 < (N : Int)) := by omega
  clear hm hc
  go_enter Tryz.func164, Tryz.ntmps164
  go_wp2_with fail
  refine Hm.out.mono ?_
  rintro e w1 ⟨rfl, rfl⟩
  have HG2 : Hid ((w1.alloc (.cells (Array.replicate N (Value.int .i64 0)) 3)).heap[w1.heap.size]? = some (.cells (repRow x N 0).toArray 3 (0, 0))) := by
    show (w1.heap.push _)[w1.heap.size]? = _
    rw [Array.getElem?_push_size]
    simp [repRow]
  go_wp2_with (refine wpList_copy_splice rfl _ _ 24 24 rfl 3 Tryz.underlying24 (by kernel_rfl) (some ⟨w1.heap.size, 0, none⟩) (some ⟨b, 0, none⟩) N N 1 c rfl rfl w1.heap.size 0 (repRow x N 0) 3 HG2.out (List.replicate 1 (.int .i64 x)) (by rw [List.length_replicate]; exact (Nat.min_eq_left hN).symm) (fun _ => ⟨rfl, _, rfl, fun j v hj => rep_src (bc (below_alloc _ _) Hc.out) hj⟩) (by rw [repRow_len (Nat.zero_le _), List.length_replicate]; omega) (by simp [Value.oneCell']) w1.heap.size w1 (below_alloc _ _) (Nat.le_refl _) ?_; intro w3 hg3 hb3)
  obtain ⟨g, hg⟩ : ∃ g, g = w1.heap.size := ⟨_, rfl⟩
  have Hg := Lib.hid hg
  rw [← hg] at hg3 ⊢
  clear hg
  have HG3 : Hid (w3.heap[g]? = some (.cells (repRow x N 1).toArray 3 (0, 0))) := by
    have := hg3.out
    rw [show List.replicate 1 (Value.int .i64 x) = List.replicate 1 (.int .i64 x) from rfl, repRow_splice (by omega)] at this
    exact this
  have HB3 := Lib.hid hb3
  clear hg3 hb3
  go_wp2
  go_loopw [8] (fun nv wr => ∃ j : Nat, 1 ≤ j ∧ j ≤ N ∧ nv = .int .i64 j ∧ wr.heap[g]? = some (.cells (repRow x N j).toArray 3 (0, 0)) ∧ Below w1.heap.size w1 wr) (fun nv _ => N - (intOf nv).toNat)
  case atStart => exact ⟨1, Nat.le_refl _, hN, rfl, HG3.out, HB3.out⟩
  case round =>
    obtain ⟨j, hj1, hj, rfl, hgr, hb⟩ := hrel
    have HG := Lib.hid hgr
    have HB := Lib.hid hb
    clear hgr hb
    by_cases hlt : j < N
    · obtain ⟨m, hm⟩ : ∃ m, m = min j (N - j) := ⟨_, rfl⟩
      have hm1 : 1 ≤ m := by omega
      have hm2 : j + m ≤ N := by omega
      have hmj : m ≤ j := by omega
      have hNj : ¬ N = j := by omega
      have Hmm := Lib.hid hm
      clear hm
      have m3 : IntKind.i64.wrap ((j : Int) + m) = (j : Int) + m := wr64 _ (by omega) (by omega)
      have hs0 : Since w1 wr := HB.out
      go_upto_region 9 with (fail)
      refine wp_region_chain0 (w0 := w1) 9 [false, false, false, false, false, false, false, true, true] (by kernel_rfl) (by kernel_rfl) (hs0) ?_
      simp only [selF, selT, List.take_succ_cons, List.take_zero, List.drop_succ_cons, List.drop_zero]
      refine pflow_val (v := ?_) rfl ?_ ?_; rotate_left; (intro W hW; go_simp; with_reducible rfl)
      simp only [Act.put, List.setIfInBounds_toArray, List.set_cons_succ, List.set_cons_zero]
      refine pflow_val (v := ?_) rfl ?_ ?_; rotate_left; (intro W hW; go_simp; with_reducible rfl)
      simp only [Act.put, List.setIfInBounds_toArray, List.set_cons_succ, List.set_cons_zero]
      refine pflow_val (v := ?_) rfl ?_ ?_; rotate_left; (intro W hW; go_simp; with_reducible rfl)
      simp only [Act.put, List.setIfInBounds_toArray, List.set_cons_succ, List.set_cons_zero]
      refine pflow_val (v := ?_) rfl ?_ ?_; rotate_left; (intro W hW; go_simp; with_reducible rfl)
      simp only [Act.put, List.setIfInBounds_toArray, List.set_cons_succ, List.set_cons_zero]
      refine pflow_val (v := ?_) rfl ?_ ?_; rotate_left; (intro W hW; go_simp; with_reducible rfl)
      simp only [Act.put, List.setIfInBounds_toArray, List.set_cons_succ, List.set_cons_zero]
      refine pflow_val (v := ?_) rfl ?_ ?_; rotate_left; (intro W hW; go_simp; with_reducible rfl)
      simp only [Act.put, List.setIfInBounds_toArray, List.set_cons_succ, List.set_cons_zero]
      refine pflow_val (v := ?_) rfl ?_ ?_; rotate_left; (intro W hW; go_simp; with_reducible rfl)
      simp only [Act.put, List.setIfInBounds_toArray, List.set_cons_succ, List.set_cons_zero]
      obtain ⟨W, hWd⟩ : ∃ W, W = World.drew wr := ⟨_, rfl⟩
      rw [← hWd]
      have hW : Since w1 W := by rw [hWd]; exact since_drew (hs0)
      refine tflow_of_wp (fun Q' HQ => ?_)
      (refine wpList_copy_splice rfl _ _ 24 24 rfl 3 Tryz.underlying24 (by kernel_rfl) (some ⟨g, j, none⟩) (some ⟨g, 0, none⟩) (N - j) (N - j) j N (by go_simp) (by go_simp) g j (repRow x N j) 3 (by rw [hWd]; exact HG.out) (List.replicate m (.int .i64 x)) (by rw [List.length_replicate]; exact Hmm.out) (fun _ => ⟨rfl, _, rfl, fun i v hi => rep_src2 (by rw [hWd]; exact HG.out) hmj hi⟩) (by rw [repRow_len hj]; simpa using hm2) (by simp [Value.oneCell']) w1.heap.size w1 hW (by rw [Hg.out]; exact Nat.le_refl _) ?_); intro w4 hg4 hb4; refine HQ _ _ hb4 ?_; replace hW : Since w1 w4 := hb4; simp only [List.length_replicate, goInt]
      (try simp only [Act.put, List.setIfInBounds_toArray, List.set_cons_succ, List.set_cons_zero])
      refine tflow_val (v := ?_) rfl ?_ hW ?_; rotate_left; (go_simp; with_reducible rfl)
      simp only [Act.put, List.setIfInBounds_toArray, List.set_cons_succ, List.set_cons_zero]
      simp only [TFlow]
      have HG4 : Hid (w4.heap[g]? = some (.cells (repRow x N (j + m)).toArray 3 (0, 0))) := by
        have := hg4.out
        rw [repRow_splice hm2] at this
        exact this
      have HB4 := Lib.hid hW
      clear hg4 hb4 hW hWd hs0
      go_wp2
      go_roundw
      case rel => exact ⟨j + m, by omega, hm2, by go_num, HG4.out, HB4.out⟩
      case measure => simp [intOf]; omega
    · obtain rfl : j = N := by omega
      go_wp2
      go_ret
      exact ⟨_, rfl, own_rep HG.out (by rw [Hg.out]; exact Nat.le_refl _) hN2, HB.out⟩
end Go.Proofs.YtomnaabadohecaaGreat
namespace Go.Proofs.YtomnaabadohecaaGreat
open Go.RowKit
end Go.Proofs.YtomnaabadohecaaGreat
namespace Go.Proofs.YtomnaabadohecaaGreat
open Go.RowKit
end Go.Proofs.YtomnaabadohecaaGreat
namespace Go.Proofs.YtomnaabadohecaaGreat
open Go.RowKit
end Go.Proofs.YtomnaabadohecaaGreat
namespace Go.Proofs.YtomnaabadohecaaGreat
open Go.RowKit Go.Shelf
attribute [local go_sem] Oper.semAt_some
/-- what a round keeps: the blocks from lo to hi -/
def KeepMid (lo hi : Nat) (W W' : World) : Prop := W.heap.size ≤ W'.heap.size ∧ ∀ k, lo ≤ k → k < hi → W'.heap[k]? = W.heap[k]?
theorem KeepMid.t {lo hi : Nat} {A B C : World} (h : KeepMid lo hi A B) (k : KeepMid lo hi B C) : KeepMid lo hi A C := ⟨Nat.le_trans h.1 k.1, fun i h1 h2 => (k.2 i h1 h2).trans (h.2 i h1 h2)⟩
theorem KeepMid.refl (lo hi : Nat) (W : World) : KeepMid lo hi W W := ⟨Nat.le_refl _, fun _ _ _ => rfl⟩
theorem KeepMid.b {lo hi : Nat} {w : World} (hh : hi ≤ w.heap.size) (W : World) (l : Nat) (o o' : Obj) (hl : w.heap.size ≤ l) (_ : W.heap[l]? = some o) (_ : o.isCells = false) (_ : o.isWalk = false) : KeepMid lo hi W (W.putObj l o') :=
  ⟨(grownBy_putObj' W l o').size, fun k _ hk => by
    rcases Nat.lt_or_ge k W.heap.size with h | h
    · exact (grownBy_putObj' W l o').block k h (fun e => by cases e; omega)
    · exact World.putObj_heap_other (fun e => by omega)⟩
theorem KeepMid.cell {lo hi : Nat} {W W' : World} (h : KeepMid lo hi W W') {a : Addr} {u : Value} (h1 : lo ≤ a.block) (h2 : a.block < hi) (hc : W.cell? a = some u) : W'.cell? a = some u :=
  (World.cell?_of_block (h.2 a.block h1 h2)).trans hc
/-- a range and where it stands -/
abbrev Rng := { x : Nat × Int // 1 ≤ x.2 ∧ x.2 ≤ 100 }
end Go.Proofs.YtomnaabadohecaaGreat
namespace Go.Proofs.YtomnaabadohecaaGreat
open Go.RowKit Go.Shelf
attribute [local go_sem] Oper.semAt_some
def vals (pre : List Rng) : List Int := pre.map fun x => x.1.2
end Go.Proofs.YtomnaabadohecaaGreat
namespace Go.Proofs.YtomnaabadohecaaGreat
open Go.RowKit
end Go.Proofs.YtomnaabadohecaaGreat
namespace Go.Proofs.YtomnaabadohecaaGreat
open Go.RowKit
end Go.Proofs.YtomnaabadohecaaGreat
namespace Go.Proofs.YtomnaabadohecaaGreat
open Go.RowKit
end Go.Proofs.YtomnaabadohecaaGreat
namespace Go.Proofs.YtomnaabadohecaaGreat
open Go.RowKit
end Go.Proofs.YtomnaabadohecaaGreat
namespace Go.Proofs.YtomnaabadohecaaGreat
open Go.RowKit
end Go.Proofs.YtomnaabadohecaaGreat
namespace Go.Proofs.YtomnaabadohecaaGreat
open Go.RowKit
end Go.Proofs.YtomnaabadohecaaGreat
namespace Go.Proofs.YtomnaabadohecaaGreat
open Go.RowKit
end Go.Proofs.YtomnaabadohecaaGreat
namespace Go.Proofs.YtomnaabadohecaaGreat
open Go.RowKit
end Go.Proofs.YtomnaabadohecaaGreat
namespace Go.Proofs.YtomnaabadohecaaGreat
open Go.RowKit
end Go.Proofs.YtomnaabadohecaaGreat
namespace Go.Proofs.YtomnaabadohecaaGreat
open Go.RowKit
end Go.Proofs.YtomnaabadohecaaGreat
namespace Go.Proofs.YtomnaabadohecaaGreat
open Go.RowKit
section
variable {α : Type} {p : α → Bool} {xs : List α}
end
end Go.Proofs.YtomnaabadohecaaGreat
namespace Go.Proofs.YtomnaabadohecaaGreat
open Go.RowKit
end Go.Proofs.YtomnaabadohecaaGreat
namespace Go.Proofs.YtomnaabadohecaaGreat
open Go.RowKit
end Go.Proofs.YtomnaabadohecaaGreat
namespace Go.Proofs.YtomnaabadohecaaGreat
open Go.RowKit
def degsB (n : Net) : List Int := n.ends.map fun es => (es.length : Int)
theorem degsB_len (n : Net) : (degsB n).length = n.ends.length := by simp [degsB]
theorem degsB_at {n : Net} {k : Nat} {es : List (Int × Int)} (h : n.ends[k]? = some es) : (degsB n)[k]? = some (es.length : Int) := by simp [degsB, h]
set_option maxHeartbeats 4000000 in
theorem neDegrees_any (ve vi vn : Value) (n : Net) (w : World) (h : NetIn w ve vi vn n) (hn : netOk n = true) :
    Calls Tryz.prog 195 #[.agg #[ve, vi, vn]] w fun e w' => ∃ u, e = .returned u ∧ Own w' w.heap.size u (degsB n) ∧ Below w.heap.size w w' := by
  have hn40 := (netOk_len hn).2
  obtain ⟨w0, hw0⟩ : ∃ w0, w0 = (w).alloc (.cells #[ve, vi, vn] 43) := ⟨_, rfl⟩
  have hb0 : Below w.heap.size w w0 := by rw [hw0]; exact ((Below.refl _ _).alloc (by simp) _)
  have H := Lib.hid (h.keep hb0)
  obtain ⟨h1, h2, h3⟩ := h.keep hb0
  obtain ⟨A, c, rfl, hlc, hm, hA⟩ := h1
  obtain ⟨A2, c2, rfl, _, hm2, _⟩ := h2
  obtain ⟨A3, c3, rfl, _, hm3, _⟩ := h3
  unfold maxLen at hm hm2 hm3
  have p00 : ∀ W, Since w0 W → W.cell? ⟨w.heap.size, 0, none⟩ = some (.slice A n.ends.length c) := have_cell (by rw [hw0]; simp)
  have p01 : ∀ W, Since w0 W → W.cell? ⟨w.heap.size, 1, none⟩ = some (.slice A2 n.ids.length c2) := have_cell (by rw [hw0]; simp)
  have p02 : ∀ W, Since w0 W → W.cell? ⟨w.heap.size, 2, none⟩ = some (.slice A3 n.inputs.length c3) := have_cell (by rw [hw0]; simp)
  have Hb0 := Lib.hid hb0
  have Hw0 := Lib.hid hw0
  have HA := Lib.hid hA
  clear hA h
  clear hb0 hw0
  have hs0 : Since w0 w0 := since_refl _
  clear hn
  go_enter Tryz.func195, Tryz.ntmps195
  go_upto_region 1 with (fail)
  rw [← Hw0.out]
  go_wp2
  go_loopw [3, 9] (fun u i wr => ∃ k : Nat, k ≤ n.ends.length ∧ i = .int .i64 k ∧ Own wr w0.heap.size u ((degsB n).take k) ∧ Since w0 wr) (fun _ i _ => n.ends.length - (intOf i).toNat)
  case atStart => exact ⟨0, Nat.zero_le _, rfl, by simpa using own_nil _ w0.heap.size, hs0⟩
  case round =>
    obtain ⟨k, hk, rfl, ho, hs⟩ := hrel
    have Ho := Lib.hid ho
    have Hs := Lib.hid hs
    clear hs0 ho hs
    by_cases hlt : k < n.ends.length
    · obtain ⟨es, hes⟩ := getx n.ends k hlt
      obtain ⟨b, offr, cr, ur, hA1, hkr, hc1, hrow⟩ := row_at H.out.es hes
      cases hA1
      obtain ⟨A1, z1, rfl, hz1, hz2, hA1⟩ := hrow
      unfold maxLen at hz2
      have q5 := have_cell hc1 wr Hs.out
      have hd := degsB_at hes
      have Hlen : Hid (((degsB n).take k).length + 1 ≤ 17592186044416) := by show _ ≤ _; rw [List.length_take]; omega
      have Hnx : Hid ((degsB n).take (k + 1) = (degsB n).take k ++ [(es.length : Int)]) := take_snoc hd
      have m3 : IntKind.i64.wrap ((k : Int) + 1) = (k : Int) + 1 := wr64 _ (by omega) (by omega)
      clear hes hc1 hA1 hd
      go_wp2_with (at_builtin; refine app_int_s rfl _ _ rfl rfl (Ho.out.since (since_alloc _ (since_refl _))) wr.heap.size (es.length : Int) rfl (by simp [go_sem]) Hlen.out (since_alloc _ Hs.out) ?_; intro g cc w2 ho2 hs3)
      have Ho2 := Lib.hid ho2
      have Hs2 := Lib.hid hs3
      clear ho2 hs3
      go_wp2
      go_roundw
      case rel => exact ⟨k + 1, by omega, by go_num, by rw [Hnx.out]; have := Ho2.out; first | exact this | (rw [List.length_take] at this; exact this) | (simpa using this), Hs2.out⟩
      case measure => simp [intOf]; omega
    · obtain rfl : k = n.ends.length := by omega
      go_wp2
      go_ret
      exact ⟨_, rfl, by have := Ho.out; rw [List.take_of_length_le (by rw [degsB_len]; exact Nat.le_refl _)] at this; exact this.mono Hb0.out.size, Since.after Hb0.out Hs.out⟩
end Go.Proofs.YtomnaabadohecaaGreat
namespace Go.Proofs.YtomnaabadohecaaGreat
open Go.RowKit
end Go.Proofs.YtomnaabadohecaaGreat
namespace Go.Proofs.YtomnaabadohecaaGreat
open Go.RowKit
end Go.Proofs.YtomnaabadohecaaGreat
namespace Go.Proofs.YtomnaabadohecaaGreat
open Go.RowKit
/-! the plain tests of machines and states of asynchronous runs -/
def macLens2 (m : Mac) : Bool := ((m.start.length : Int) == m.degree + 1) && ((m.send.length : Int) == m.states) && ((m.output.length : Int) == m.states) && decide ((m.clauses.length : Int) ≤ 60)
def stB (m : Mac) (l : List Int) : Bool := ((l.length : Int) == ((m.start.getD 0 []).length : Int)) && inB 1 10 (l.length : Int) && allB l 0 (m.states - 1)
def macOk2 (m : Mac) : Bool := macNums m && macLens2 m && m.start.all (stB m) && m.send.all (fun l => maRowB l m.degree m.messages) && m.clauses.all (clB m) && allB m.output (-1) 9
theorem inB_true {lo hi x : Int} : inB lo hi x = true ↔ lo ≤ x ∧ x ≤ hi := by simp [inB]
theorem macOk2_eq (m : Mac) : macOk2 m = macOk m := by
  rw [Bool.eq_iff_iff]
  unfold macOk2 macOk macLens macLens2 stB maRowB
  simp only [Bool.and_eq_true, List.all_eq_true, beq_iff_eq, decide_eq_true_eq]
  constructor
  · rintro ⟨⟨⟨⟨⟨hn, ⟨⟨h1, h2⟩, h3⟩, h4⟩, h5⟩, h6⟩, h7⟩, h8⟩
    have hd : 0 ≤ m.degree := by
      unfold macNums at hn
      simp only [Bool.and_eq_true, inB_true] at hn
      exact hn.1.1.1
    have hl : 0 < m.start.length := by omega
    have h0 : m.start.getD 0 [] ∈ m.start := by
      rw [List.getD_eq_getElem?_getD, List.getElem?_eq_getElem hl]
      exact List.getElem_mem hl
    exact ⟨⟨⟨⟨hn, ⟨⟨⟨⟨⟨h1, (h5 _ h0).1.2⟩, h2⟩, h4⟩, h3⟩, h8⟩⟩, fun l hl => ⟨(h5 l hl).1.1, (h5 l hl).2⟩⟩, h6⟩, h7⟩
  · rintro ⟨⟨⟨⟨hn, ⟨⟨⟨⟨⟨h1, h0⟩, h2⟩, h4⟩, h3⟩, h8⟩⟩, h5⟩, h6⟩, h7⟩
    exact ⟨⟨⟨⟨⟨hn, ⟨⟨h1, h2⟩, h3⟩, h4⟩, fun l hl => ⟨⟨(h5 l hl).1, by rw [(h5 l hl).1]; exact h0⟩, (h5 l hl).2⟩⟩, h6⟩, h7⟩, h8⟩
/-- the machine runs on the network -/
def maOnB (m : Mac) (n : Net) : Bool := allB (degsB n) 0 m.degree && allB n.inputs 0 (((m.start.getD 0 []).length : Int) - 1)
def askedB (m : Mac) (n : Net) : Bool := macOk m && netOk n && maOnB m n
def runB (m : Mac) (n : Net) (v : Nat) : Bool := decide (((n.ends.getD v []).length : Int) ≤ m.degree) && decide (n.inputs.getD v 0 < ((m.start.getD 0 []).length : Int))
def runsOnB (m : Mac) (n : Net) : Bool := (List.range n.ends.length).all (runB m n)
theorem netOk_inp {n : Net} (hn : netOk n = true) : n.inputs.length = n.ends.length ∧ ∀ x ∈ n.inputs, 0 ≤ x := by
  unfold netOk inputsB at hn
  simp only [Bool.and_eq_true, beq_iff_eq, List.all_eq_true] at hn
  obtain ⟨⟨_, h1, h2⟩, _⟩ := hn
  exact ⟨by omega, fun x hx => (inB_true.1 (h2 x hx)).1⟩
theorem all_range {α : Type} (xs : List α) (d : α) (p : α → Bool) (q : Nat → Bool) (h : ∀ v, v < xs.length → q v = p (xs.getD v d)) : (List.range xs.length).all q = xs.all p := by
  rw [Bool.eq_iff_iff, List.all_eq_true, List.all_eq_true]
  constructor
  · intro H x hx
    obtain ⟨k, hk, rfl⟩ := List.getElem_of_mem hx
    have := H k (List.mem_range.2 hk)
    rw [h k hk, List.getD_eq_getElem?_getD, List.getElem?_eq_getElem hk] at this
    exact this
  · intro H v hv
    have hv := List.mem_range.1 hv
    rw [h v hv]
    apply H
    rw [List.getD_eq_getElem?_getD, List.getElem?_eq_getElem hv]
    exact List.getElem_mem hv
theorem all_and {α : Type} (xs : List α) (p q : α → Bool) : (xs.all fun x => p x && q x) = (xs.all p && xs.all q) := by
  induction xs with
  | nil => rfl
  | cons a r ih => simp only [List.all_cons, ih]; cases p a <;> cases q a <;> cases r.all p <;> simp
theorem runsOn_eq {m : Mac} {n : Net} (hn : netOk n = true) : runsOnB m n = maOnB m n := by
  obtain ⟨hl, hi⟩ := netOk_inp hn
  unfold runsOnB runB maOnB allB
  rw [all_and]
  congr 1
  · rw [all_range n.ends [] (fun es => decide ((es.length : Int) ≤ m.degree)) _ (fun v hv => rfl)]
    unfold degsB
    rw [List.all_map]
    first | rfl | (congr 1; funext es; simp [inB])
  · rw [← hl, all_range n.inputs 0 (fun x => decide (x < ((m.start.getD 0 []).length : Int))) _ (fun v hv => rfl)]
    rw [Bool.eq_iff_iff, List.all_eq_true, List.all_eq_true]
    constructor
    · intro H x hx
      have := H x hx
      simp only [decide_eq_true_eq] at this
      exact inB_true.2 ⟨hi x hx, by omega⟩
    · intro H x hx
      have := inB_true.1 (H x hx)
      simp only [decide_eq_true_eq]
      omega
theorem asked_net {m : Mac} {n : Net} (h : askedB m n = true) : netOk n = true := by
  unfold askedB at h
  simp only [Bool.and_eq_true] at h
  exact h.1.2
end Go.Proofs.YtomnaabadohecaaGreat
namespace Go.Proofs.YtomnaabadohecaaGreat
open Go.RowKit
/-! plain runs of machines -/
def degA (n : Net) (v : Nat) : Nat := (n.ends.getD v []).length
def startB (m : Mac) (n : Net) : List Int := (List.range n.ends.length).map fun v => (m.start.getD (degA n v) []).getD (n.inputs.getD v 0).toNat 0
/-- what a machine that runs on a network is like -/
structure Asked (m : Mac) (n : Net) : Prop where
  net : netOk n = true
  deg : 0 ≤ m.degree ∧ m.degree ≤ 6
  sts : 1 ≤ m.states ∧ m.states ≤ 12
  msg : 1 ≤ m.messages ∧ m.messages ≤ 6
  slen : (m.start.length : Int) = m.degree + 1
  srow : ∀ l ∈ m.start, l.length = (m.start.getD 0 []).length ∧ ∀ x ∈ l, 0 ≤ x ∧ x < m.states
  s0 : (m.start.getD 0 []).length ≤ 10
  dlen : (m.send.length : Int) = m.states
  drow : ∀ l ∈ m.send, (l.length : Int) = m.degree ∧ ∀ x ∈ l, 0 ≤ x ∧ x < m.messages
  olen : (m.output.length : Int) = m.states
  clen : m.clauses.length ≤ 60
  crow : ∀ c ∈ m.clauses, 0 ≤ c.next ∧ c.next < m.states ∧ c.inbox.length ≤ 6 ∧ ∀ x ∈ c.inbox, -1 ≤ x
  ndeg : ∀ es ∈ n.ends, (es.length : Int) ≤ m.degree
  ilen : n.inputs.length = n.ends.length
  inp : ∀ x ∈ n.inputs, 0 ≤ x ∧ x < ((m.start.getD 0 []).length : Int)
theorem asked_of {m : Mac} {n : Net} (h : askedB m n = true) : Asked m n := by
  have hn := asked_net h
  unfold askedB at h
  simp only [Bool.and_eq_true] at h
  obtain ⟨⟨h1, _⟩, h3⟩ := h
  unfold macOk macNums macLens at h1
  unfold maOnB at h3
  simp only [Bool.and_eq_true, beq_iff_eq, decide_eq_true_eq, List.all_eq_true, inB_true] at h1 h3
  obtain ⟨⟨⟨⟨⟨⟨a1, a2⟩, a3⟩, ⟨⟨⟨⟨⟨b1, b2⟩, b3⟩, b4⟩, b5⟩, b6⟩⟩, c1⟩, c2⟩, c3⟩ := h1
  obtain ⟨d1, d2⟩ := h3
  have allM : ∀ {xs : List Int} {lo hi : Int}, allB xs lo hi = true → ∀ x ∈ xs, lo ≤ x ∧ x ≤ hi := fun h x hx => by
    unfold allB at h
    rw [List.all_eq_true] at h
    exact inB_true.1 (h x hx)
  have rowM : ∀ {xs : List Int} {many most : Int}, maRowB xs many most = true → (xs.length : Int) = many ∧ ∀ x ∈ xs, 0 ≤ x ∧ x < most := fun h => by
    unfold maRowB at h
    simp only [Bool.and_eq_true, beq_iff_eq] at h
    exact ⟨h.1, fun x hx => by have := allM h.2 x hx; omega⟩
  refine ⟨hn, a1, a2, a3, b1, fun l hl => ?_, by omega, b3, fun l hl => rowM (c2 l hl), b5, by omega, fun c hc => ?_, fun es hes => ?_, (netOk_inp hn).1, fun x hx => ?_⟩
  · have := rowM (c1 l hl)
    exact ⟨by omega, this.2⟩
  · have := c3 c hc
    unfold clB at this
    simp only [Bool.and_eq_true, decide_eq_true_eq, inB_true] at this
    obtain ⟨⟨⟨_, e2⟩, e3⟩, e4⟩ := this
    exact ⟨e2.1, by omega, by omega, fun x hx => (allM e4 x hx).1⟩
  · have := allM d1 (es.length : Int) (by unfold degsB; exact List.mem_map_of_mem hes)
    exact this.2
  · have := allM d2 x hx
    omega
theorem getD_mem {α : Type} {xs : List α} {k : Nat} (d : α) (h : k < xs.length) : xs.getD k d ∈ xs := by
  rw [List.getD_eq_getElem?_getD, List.getElem?_eq_getElem h]
  exact List.getElem_mem h
theorem start_cell {m : Mac} {n : Net} (h : Asked m n) {v : Nat} {es : List (Int × Int)} (hes : n.ends[v]? = some es) : ∃ l i, m.start[es.length]? = some l ∧ n.inputs[v]? = some i ∧ 0 ≤ i ∧ i.toNat < l.length ∧ (startB m n)[v]? = some (l.getD i.toNat 0) ∧ 0 ≤ l.getD i.toNat 0 ∧ l.getD i.toNat 0 < m.states := by
  have hv := lt_of_get hes
  have hd := h.ndeg es (List.mem_of_getElem? hes)
  have hs := h.slen
  obtain ⟨l, hl⟩ := getx m.start es.length (by omega)
  obtain ⟨i, hi⟩ := getx n.inputs v (by rw [h.ilen]; exact hv)
  obtain ⟨i1, i2⟩ := h.inp i (List.mem_of_getElem? hi)
  obtain ⟨r1, r2⟩ := h.srow l (List.mem_of_getElem? hl)
  have hlt : i.toNat < l.length := by omega
  refine ⟨l, i, hl, hi, i1, hlt, ?_, (r2 _ (getD_mem 0 hlt)).1, (r2 _ (getD_mem 0 hlt)).2⟩
  unfold startB degA
  simp [List.getElem?_map, List.getElem?_range hv, hes, hl, hi]
theorem startB_len (m : Mac) (n : Net) : (startB m n).length = n.ends.length := by simp [startB]
theorem start_take {m : Mac} {n : Net} {v : Nat} {y : Int} (h : (startB m n)[v]? = some y) : (startB m n).take (v + 1) = (startB m n).take v ++ [y] := take_snoc h
end Go.Proofs.YtomnaabadohecaaGreat
