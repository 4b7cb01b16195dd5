/- Parts of the proof: walks of functions and plain laws. -/
import Derived.Test.YtgmdpppljkmabaaGreatP0
import Derived.Test.YtgmdpppljkmabaaGreatP4
import Derived.Test.YtgmdpppljkmabaaGreatP16
import Derived.Test.YtgmdpppljkmabaaGreatP7
import Derived.Test.YtgmdpppljkmabaaGreatP12
import Derived.BigQuiet
import Derived.Test.YtgmdpppljkmabaaGreatP5
import Derived.Laws.Bits64b
import Derived.Test.YtgmdpppljkmabaaGreatP3
namespace Go.Proofs.YtgmdpppljkmabaaGreat
open Go Go.RowKit
/-! as wp_region_chain0, for any worlds S that the reads bear -/
section
variable {P : Program} {ops : Array Oper}
def PFlowS (P : Program) (ops : Array Oper) (S : World → Prop) (fin : Act → Prop) : List Oper → Act → Prop
 | [], A => fin A
 | o :: rest, A => ∃ v, (Region.wanted o (yielded ops A.tmps) = true ∧ ∀ W, S W → (execOp A.eval o).run P W = .ok (.value v) W) ∧ PFlowS P ops S fin rest (A.put o.dst v)
theorem pflowS_val {S : World → Prop} {fin : Act → Prop} {o : Oper} {rest : List Oper} {A : Act} {v : Value} (hw : Region.wanted o (yielded ops A.tmps) = true) (h : ∀ W, S W → (execOp A.eval o).run P W = .ok (.value v) W)
  (hr : PFlowS P ops S fin rest (A.put o.dst v)) : PFlowS P ops S fin (o :: rest) A := ⟨v, ⟨hw, h⟩, hr⟩
theorem pflowS_frames {S : World → Prop} {fin : Act → Prop} (l : List Oper) : ∀ (A : Act), PFlowS P ops S fin l A →
  ∃ (vals : Nat → Value) (F : Nat → Act), F 0 = A ∧ fin (F l.length) ∧ ∀ i o, l[i]? = some o → (Region.wanted o (yielded ops (F i).tmps) = true ∧ ∀ W, S W → (execOp (F i).eval o).run P W = .ok (.value (vals i)) W) ∧ F (i + 1) = (F i).put o.dst (vals i) := by
 induction l with
 | nil => intro A h; exact ⟨fun _ => undef, fun _ => A, rfl, h, fun i o h => by simp at h⟩
 | cons o l ih =>
  intro A h
  obtain ⟨v, hs, hf⟩ := h
  obtain ⟨vals, F, h0, hfin, hstep⟩ := ih _ hf
  refine ⟨fun i => match i with | 0 => v | i + 1 => vals i, fun i => match i with | 0 => A | i + 1 => F i, rfl, hfin, ?_⟩
  intro i o' hi
  cases i with
  | zero => simp at hi; subst hi; exact ⟨hs, h0⟩
  | succ i => exact hstep i o' (by simpa using hi)
theorem wp_region_chainS {Q : Exit → Act → World → Prop} {rid : Nat} {a : Act} {w : World} (S : World → Prop) (k : Nat) (mask : List Bool) (hm : P.follows .mixedOrders = true) (hc : chainB ops k mask = true) (hs0 : S w.drew)
  (h : PFlowS P ops S (fun A => TFlow P ops S (fun A W => wpList P ops Q (ops.toList.drop k) A W) (selT mask (ops.toList.take k)) A w.drew) (selF mask (ops.toList.take k)) a) : (Code.region rid ops true).wp P Q a w := by
 unfold chainB at hc
 simp only [Bool.and_eq_true, decide_eq_true_eq] at hc
 obtain ⟨⟨⟨hf, hml⟩, hkn⟩, hch⟩ := hc
 have hok := flow_ok hf
 have hlt : mask.length = (ops.toList.take k).length := by simp; omega
 have hmk : ∀ i, i < k → ∃ b, mask[i]? = some b := fun i hi => ⟨_, List.getElem?_eq_getElem (by omega)⟩
 have hget : ∀ i o, i < k → ops[i]? = some o → (ops.toList.take k)[i]? = some o := fun i o hi ho => by
  rw [List.getElem?_take, if_pos hi]; simpa using ho
 have hmd : ∀ i b, mask[i]? = some b → mask.getD i true = b := fun i b hb => by rw [List.getD_eq_getElem?_getD, hb]; rfl
 have hml' : ∀ i b, mask[i]? = some b → i < k := fun i b hb => by have := (List.getElem?_eq_some_iff.1 hb).1; omega
 have chT : ∀ i j, mask[i]? = some true → mask[j]? = some true → j < i → Anc ops j i := fun i j hi hj hji => by
  have hik := hml' i _ hi
  have ho : ops[i]? = some ops[i] := Array.getElem?_eq_getElem (by omega)
  have := List.all_eq_true.1 hch i (List.mem_range.2 hik)
  simp only [ho] at this
  rw [if_pos (hmd i _ hi)] at this
  have := List.all_eq_true.1 this j (List.mem_range.2 hji)
  rw [hmd j _ hj, Bool.not_true, Bool.false_or] at this
  exact closTbl_sound (i + 1) i j (by simpa using this)
 have chF : ∀ i o j, mask[i]? = some false → ops[i]? = some o → j ∈ depsOf o → mask[j]? = some false := fun i o j hi ho hj => by
  have hik := hml' i _ hi
  have hji := hok.back i o ho j hj
  have := List.all_eq_true.1 hch i (List.mem_range.2 hik)
  simp only [ho] at this
  rw [if_neg (by rw [hmd i _ hi]; simp)] at this
  have := List.all_eq_true.1 this j hj
  obtain ⟨b, hb⟩ := hmk j (by omega)
  rw [hmd j _ hb] at this
  cases b <;> simp_all
 obtain ⟨vals, F, h0, hfin, hst⟩ := pflowS_frames _ a h
 have hpure : ∀ r, r ≤ mask.count false → FrameIs a ops (fun j => vals (rk false mask j)) (fun j => mask[j]? = some false ∧ rk false mask j < r) (F r) := by
  intro r
  induction r with
  | zero => intro _; rw [h0]; exact ⟨rfl, rfl, fun j _ _ hj => by have := hj.2; omega, fun _ _ => rfl⟩
  | succ r ih =>
   intro hr
   obtain ⟨i, hi1, hi2⟩ := rk_has (b := false) mask r (by omega)
   have hik := hml' i _ hi1
   have ho : ops[i]? = some ops[i] := Array.getElem?_eq_getElem (by omega)
   have hsel := selF_rk mask _ i hlt hi1
   rw [hget i _ hik ho, hi2] at hsel
   rw [(hst r _ hsel).2]
   have := ((ih (by omega)).put ho (fun j oj d hj hoj hd hd2 => by
    have := hok.dsts i _ hik ho j oj (hml' j _ hj.1) hoj d hd hd2
    subst this
    have := hj.2
    omega)).same (E := fun j => mask[j]? = some false ∧ rk false mask j < r + 1) (fun j => by
     constructor
     ·rintro (⟨a1, a2⟩ | rfl)
      ·exact ⟨a1, by omega⟩
      ·exact ⟨hi1, by omega⟩
     ·rintro ⟨a1, a2⟩
      by_cases e : rk false mask j = r
      ·exact .inr (rk_inj a1 hi1 (by omega))
      ·exact .inl ⟨a1, by omega⟩)
   rw [show vals r = vals (rk false mask i) by rw [hi2]]
   exact this
 have hnF : (selF mask (ops.toList.take k)).length = mask.count false := selF_len _ _ hlt
 rw [hnF] at hfin
 let SP : Nat → Prop := fun j => mask[j]? = some false
 let J : (Nat → Prop) → Act → World → Prop := fun D a' W =>
  (S W ∧ (∀ j, D j → j < k) ∧ ∃ (V : Nat → Value) (q : Nat) (A : Act), (∀ j, mask[j]? = some false → V j = vals (rk false mask j)) ∧ (∀ j, mask[j]? = some true → (D j ↔ rk true mask j < q)) ∧
   FrameIs a ops V D a' ∧ FrameIs a ops V (fun j => mask[j]? = some false ∨ (mask[j]? = some true ∧ rk true mask j < q)) A ∧
   TFlow P ops S (fun A W => wpList P ops Q (ops.toList.drop k) A W) ((selT mask (ops.toList.take k)).drop q) A W) ∨
  (∃ m, k ≤ m ∧ m ≤ ops.size ∧ (∀ j, j < ops.size → (D j ↔ j < m)) ∧ wpList P ops Q (ops.toList.drop m) a' W)
 have htl : (selT mask (ops.toList.take k)).length = mask.count true := selT_len _ _ hlt
 have full : ∀ D a' W, J D a' W → (∀ j, j < k → D j) → ∃ m, k ≤ m ∧ m ≤ ops.size ∧ (∀ j, j < ops.size → (D j ↔ j < m)) ∧ wpList P ops Q (ops.toList.drop m) a' W := by
  intro D a' W hJ hD
  rcases hJ with ⟨hW, hDk, V, q, A, hV, hT, hfr, hfA, htf⟩ | hJ
  ·have hq : mask.count true ≤ q := by
    by_cases e : mask.count true ≤ q
    ·exact e
    ·obtain ⟨i, hi1, hi2⟩ := rk_has (b := true) mask q (by omega)
     have := (hT i hi1).1 (hD i (hml' i _ hi1))
     omega
   have enil : (selT mask (ops.toList.take k)).drop q = [] := List.drop_eq_nil_of_le (by omega)
   rw [enil] at htf
   have : a' = A := hfr.ext hfA (fun j hj => by
    constructor
    ·intro hj'
     obtain ⟨b, hb⟩ := hmk j (hDk j hj')
     cases b
     ·exact .inl hb
     ·exact .inr ⟨hb, (hT j hb).1 hj'⟩
    ·rintro (hb | ⟨hb, _⟩) <;> exact hD j (hml' j _ hb))
   subst this
   exact ⟨k, Nat.le_refl _, hkn, fun j _ => ⟨fun h => hDk j h, fun h => hD j h⟩, htf⟩
  ·exact hJ
 refine wp_region_inv2 hm hok.back J (.inl ⟨hs0, fun j hj => hj.elim, fun j => vals (rk false mask j), 0, F (mask.count false), fun j _ => rfl, fun j _ => ⟨fun h => h.elim, fun h => by omega⟩, ⟨rfl, rfl, fun j _ _ hj => hj.elim, fun _ _ => rfl⟩, ?_, ?_⟩) ?_ ?_
 ·exact (hpure _ (Nat.le_refl _)).same (fun j => by
   constructor
   ·rintro ⟨a1, -⟩; exact .inl a1
   ·rintro (a1 | ⟨-, a2⟩)
    ·exact ⟨a1, rk_lt_count a1⟩
    ·omega)
 ·rw [List.drop_zero]; exact hfin
 ·intro D a' W i o hJ ho hDi hdep hcl
  have hin : i < ops.size := (Array.getElem?_eq_some_iff.1 ho).1
  by_cases hik : i < k
  ·-- one of the first k
   rcases hJ with ⟨hW, hDk, V, q, A, hV, hT, hfr, hfA, htf⟩ | ⟨m, h1, h2, h3, -⟩
   rotate_left
   ·exact absurd ((h3 i hin).2 (by omega)) hDi
   have look : ∀ t ∈ o.looksAt ops, ∀ j oj, j < k → ops[j]? = some oj → oj.dst = some t → D j ∧ j ∈ depsOf o := fun t ht j oj hjk hoj hd => by
    have := hok.looks i o hik ho t ht j oj hjk hoj hd
    exact ⟨hdep j this, this⟩
   have dist : ∀ j oj d, D j → ops[j]? = some oj → o.dst = some d → oj.dst ≠ some d := fun j oj d hj hoj hd hd2 => by
    have := hok.dsts i o hik ho j oj (hDk j hj) hoj d hd hd2
    subst this
    exact hDi hj
   obtain ⟨b, hb⟩ := hmk i hik
   cases b with
   | false =>
    have hsel := selF_rk mask _ i hlt hb
    rw [hget i _ hik ho] at hsel
    obtain ⟨⟨hw, hrun⟩, -⟩ := hst _ _ hsel
    have hr := rk_lt_count hb
    obtain ⟨he, hw'⟩ := agree_exec (ops := ops) (a' := a') (A := F (rk false mask i)) (fun t ht => (hfr.vals2 (v' := V) (fun _ _ _ => rfl)).agree ((hpure _ (Nat.le_of_lt hr)).vals (v' := V) (fun j hj => (hV j hj.1).symm)) t (fun j oj hj hoj hd => by
     have hjk : j < k := hj.elim (fun h => hDk j h) (fun h => hml' j _ h.1)
     obtain ⟨d1, d2⟩ := look t ht j oj hjk hoj hd
     have hjf := chF i o j hb ho d2
     exact ⟨d1, hjf, rk_lt (hok.back i o ho j d2) hjf⟩)) (fun cs b => hok.nosel i o cs b ho)
    rw [if_pos (hw'.trans hw)]
    refine .inl ?_
    unfold Oper.wp
    rw [he, hrun W hW]
    refine .inl ⟨hW, fun j hj => hj.elim (fun h => hDk j h) (fun h => by omega), V, q, A, hV, fun j hj => ?_, ?_, hfA, htf⟩
    ·rw [← hT j hj]
     constructor
     ·rintro (h | rfl)
      ·exact h
      ·rw [hb] at hj; cases hj
     ·exact .inl
    ·have := hfr.put (i := i) ho dist
     rwa [hV i hb] at this
   | true =>
    have hq : rk true mask i = q := by
     have h1 : ¬ rk true mask i < q := fun h => hDi ((hT i hb).2 h)
     by_cases e : rk true mask i = q
     ·exact e
     ·obtain ⟨j, hj1, hj2⟩ := rk_has (b := true) mask q (by have := rk_lt_count hb; omega)
      have hji : j < i := by
       rcases Nat.lt_trichotomy j i with h | h | h
       ·exact h
       ·subst h; omega
       ·have := rk_lt h hb; omega
      have := anc_ready hcl ho hdep (chT i j hb hj1 hji)
      have := (hT j hj1).1 this
      omega
    have hsel := selT_rk mask _ i hlt hb
    rw [hget i _ hik ho, hq] at hsel
    have hqn : q < (selT mask (ops.toList.take k)).length := (List.getElem?_eq_some_iff.1 hsel).1
    rw [List.drop_eq_getElem_cons hqn, (List.getElem?_eq_some_iff.1 hsel).2] at htf
    obtain ⟨he, hw'⟩ := agree_exec (ops := ops) (a' := a') (A := A) (fun t ht => hfr.agree hfA t (fun j oj hj hoj hd => by
     have hjk : j < k := hj.elim (fun h => hDk j h) (fun h => h.elim (hml' j _) (fun h => hml' j _ h.1))
     obtain ⟨d1, d2⟩ := look t ht j oj hjk hoj hd
     refine ⟨d1, ?_⟩
     obtain ⟨b, hb'⟩ := hmk j hjk
     cases b
     ·exact .inl hb'
     ·exact .inr ⟨hb', (hT j hb').1 d1⟩)) (fun cs b => hok.nosel i o cs b ho)
    have next : ∀ u W', S W' → TFlow P ops S (fun A W => wpList P ops Q (ops.toList.drop k) A W) ((selT mask (ops.toList.take k)).drop (q + 1)) (A.put o.dst u) W' → J (fun j => D j ∨ j = i) (a'.put o.dst u) W' := by
     intro u W' hS ht
     let V' : Nat → Value := fun j => if j = i then u else V j
     have e1 : ∀ j, j ≠ i → V' j = V j := fun j hj => if_neg hj
     have e2 : V' i = u := if_pos rfl
     refine .inl ⟨hS, fun j hj => hj.elim (fun h => hDk j h) (fun h => by omega), V', q + 1, A.put o.dst u, fun j hj => ?_, fun j hj => ?_, ?_, ?_, ht⟩
     ·rw [e1 j (fun e => by subst e; rw [hb] at hj; cases hj)]; exact hV j hj
     ·constructor
      ·rintro (h | rfl)
       ·have := (hT j hj).1 h; omega
       ·omega
      ·intro h
       by_cases e : rk true mask j = q
       ·exact .inr (rk_inj hj hb (by omega))
       ·exact .inl ((hT j hj).2 (by omega))
     ·have := (hfr.vals2 (v' := V') (fun j _ hj => (e1 j (fun e => by subst e; exact hDi hj)).symm)).put (i := i) ho dist
      rwa [e2] at this
     ·have := ((hfA.vals2 (v' := V') (fun j _ hj => (e1 j (fun e => by
       subst e
       rcases hj with hj | ⟨-, hj⟩
       ·rw [hb] at hj; cases hj
       ·omega)).symm)).put (i := i) ho (fun j oj d hj hoj hd hd2 => by
        have hjk : j < k := hj.elim (hml' j _) (fun h => hml' j _ h.1)
        have := hok.dsts i o hik ho j oj hjk hoj d hd hd2
        subst this
        rcases hj with hj | ⟨-, hj⟩
        ·rw [hb] at hj; cases hj
        ·omega)).same (E := fun j => mask[j]? = some false ∨ (mask[j]? = some true ∧ rk true mask j < q + 1)) (fun j => by
        constructor
        ·rintro ((h | ⟨h, h'⟩) | rfl)
         ·exact .inl h
         ·exact .inr ⟨h, by omega⟩
         ·exact .inr ⟨hb, by omega⟩
        ·rintro (h | ⟨h, h'⟩)
         ·exact .inl (.inl h)
         ·by_cases e : rk true mask j = q
          ·exact .inr (rk_inj h hb (by omega))
          ·exact .inl (.inr ⟨h, by omega⟩))
      rwa [e2] at this
    rcases htf with ⟨hw, hrun⟩ | ⟨hw, hrun⟩
    ·rw [if_pos (hw'.trans hw)]
     refine .inl ?_
     unfold Oper.wp
     rw [he]
     generalize (execOp A.eval o).run P W = r at hrun ⊢
     cases r with
     | ok nx W' =>
      cases nx with
      | value u => exact next u W' hrun.1 hrun.2
      | skip => exact next undef W' hrun.1 hrun.2
      | row row args => exact Rows.mono hrun fun u W'' h => next u W'' h.1 h.2
      | enter f args =>
       simp only [Oper.upon]
       exact Calls.mono hrun fun e W'' ⟨u, he', h3, h4⟩ => by subst he'; exact next u W'' h3 h4
      | _ => exact hrun.elim
     | halt x W' => exact hrun.elim
    ·rw [if_neg (by rw [hw'.trans hw]; simp)]
     exact next _ _ hW hrun
  ·-- the tail
   have hall : ∀ j, j < i → D j := fun j hj => anc_ready hcl ho hdep (hok.tail i (by omega) hin j hj)
   obtain ⟨m, h1, h2, h3, h4⟩ := full D a' W hJ (fun j hj => hall j (by omega))
   have hmi : m = i := by
    by_cases e1 : i < m
    ·exact absurd ((h3 i hin).2 e1) hDi
    ·by_cases e2 : m < i
     ·have := (h3 m (by omega)).1 (hall m e2); omega
     ·omega
   subst hmi
   have hdr : ops.toList.drop m = o :: ops.toList.drop (m + 1) := by
    have : m < ops.toList.length := by simpa using hin
    rw [List.drop_eq_getElem_cons this]
    congr 1
    have := (Array.getElem?_eq_some_iff.1 ho).2
    simpa using this
   rw [hdr] at h4
   unfold wpList at h4
   have next : ∀ a W, wpList P ops Q (ops.toList.drop (m + 1)) a W → J (fun j => D j ∨ j = m) a W := fun a W h => .inr ⟨m + 1, by omega, by omega, fun j hj => by
    constructor
    ·rintro (h | rfl)
     ·have := (h3 j hj).1 h; omega
     ·omega
    ·intro h
     by_cases e : j = m
     ·exact .inr e
     ·exact .inl ((h3 j hj).2 (by omega)), h⟩
   split
   ·rename_i hw
    rw [if_pos hw] at h4
    exact h4.imp (Oper.wp_mono next) id
   ·rename_i hw
    rw [if_neg hw] at h4
    exact next _ _ h4
 ·intro D a' W hJ hall
  obtain ⟨m, h1, h2, h3, h4⟩ := full D a' W hJ (fun j hj => hall j (by omega))
  have hmn : m = ops.size := by
   by_cases e : m < ops.size
   ·have := (h3 m e).1 (hall m e); omega
   ·omega
  subst hmn
  rw [List.drop_eq_nil_of_le (by simp)] at h4
  exact h4

theorem tflow_allocS {S : World → Prop} {fin : Act → World → Prop} {o : Oper} {rest : List Oper} {A : Act} {W : World} {ob : Obj} {v : Value} (hw : Region.wanted o (yielded ops A.tmps) = true) (h : (execOp A.eval o).run P W = .ok (.value v) (W.alloc ob)) (hS : S (W.alloc ob))
  (hr : ∀ W', W' = W.alloc ob → S W' → TFlow P ops S fin rest (A.put o.dst v) W') : TFlow P ops S fin (o :: rest) A W :=
 tflow_new hw h hS (hr _ rfl hS)
end
end Go.Proofs.YtgmdpppljkmabaaGreat
namespace Go.Proofs.YtgmdpppljkmabaaGreat
open Go.RowKit
/-! a network without some ports -/
structure KeepIs (n : Net) (K : List (List Bool)) (kf : Nat → Nat → Bool) : Prop where
 len : K.length = n.ends.length
 row : ∀ (v : Nat) (es : List (Int × Int)), n.ends[v]? = some es → ∃ row, K[v]? = some row ∧ row.length = es.length ∧ ∀ i, i < es.length → row[i]? = some (kf v i)
theorem cell_two (W : World) (x y : Value) (t : TypeId) : (W.alloc (.cells #[x, y] t)).cell? ⟨W.heap.size, 0, none⟩ = some x ∧ (W.alloc (.cells #[x, y] t)).cell? ⟨W.heap.size, 1, none⟩ = some y := ⟨by simp, by simp⟩
theorem app_endH {w : World} {ops : Array Oper} {rest : List Oper} {o : Oper} {a : Act} {Q : Exit → Act → World → Prop} (hgd : o.guard = none) (s x : Operand)
  (ho : o.op = .call { callee := .builtin .append, args := #[s, x], argTypes := #[81, 81] }) {base : Nat} {v : Value} {xs : List (Int × Int)} {T : List Nat} (hs : a.eval s = v) (h : OwnE w base v xs T) (b : Nat) (y : Int × Int)
  (hx : a.eval x = .slice (some ⟨b, 0, none⟩) 1 1) (hc : w.cell? ⟨b, 0, none⟩ = some (.int .i64 y.1)) (hc1 : w.cell? ⟨b, 1, none⟩ = some (.int .i64 y.2)) (hl : xs.length + 1 ≤ 1000000) (hsn : base ≤ w.heap.size)
  (k : ∀ g cap w', OwnE w' base (.slice (some ⟨g, 0, none⟩) (xs.length + 1) cap) (xs ++ [y]) [g] → w.grownBy w' v.ownBlock → (v.ownBlock = some g ∨ g = w.heap.size) → wpList Tryz.prog ops Q rest (a.put o.dst (.slice (some ⟨g, 0, none⟩) (xs.length + 1) cap)) w') : wpList Tryz.prog ops Q (o :: rest) a w := by
 obtain ⟨i0, hi, hz0, hz1, hz2⟩ := info_parts end_info
 refine wpList_append_lies w hgd s x 81 ho base 83 i0 _ 2 16 Tryz.underlying81 hi hz0 hz1 hz2 rfl (by decide) v xs.length (xs.flatMap encE) hs h.1 ⟨b, 0, none⟩ 1 1 [.int .i64 y.1, .int .i64 y.2] hx rfl
  (by intro j u hj; match j, hj with | 0, hj => (simp at hj; subst hj; simpa [Addr.add] using hc) | 1, hj => (simp at hj; subst hj; simpa [Addr.add] using hc1) | j + 2, hj => simp at hj) (by simp [Value.oneCell']) (by omega) (by unfold maxLen; omega) (by omega) hsn w.heap.size rfl ?_
 intro g cap w' q1 q2 q3 q4
 have hq : w'.ownsRow base 83 2 (.slice (some ⟨g, 0, none⟩) (xs.length + 1) cap) (xs ++ [y]).length ((xs ++ [y]).flatMap encE) := by simpa [encE] using q1
 exact k g cap w' ⟨hq, by simp [Value.ownBlock]⟩ q2 q3
end Go.Proofs.YtgmdpppljkmabaaGreat
namespace Go.Proofs.YtgmdpppljkmabaaGreat
open Go.RowKit
/-! the generator of the draws: each byte is drawn within 2 ^ 48 steps -/
def itr (f : Nat → Nat) : Nat → Nat → Nat
 | 0, x => x
 | k + 1, x => itr f k (f x)
theorem itr_add (f : Nat → Nat) : ∀ (a b x : Nat), itr f (a + b) x = itr f b (itr f a x)
 | 0, b, x => by simp [itr]
 | a + 1, b, x => by rw [Nat.succ_add]; exact itr_add f a b (f x)
def lg (s : Nat) : Nat := s * 6364136223846793005 + 1442695040888963407
theorem lg_id (P u v x : Nat) : (x * (1 + 4 * P * u) + P * (1 + 2 * v)) * (1 + 4 * P * u) + P * (1 + 2 * v) = x * (1 + 4 * (P + P) * (u + 2 * P * u * u)) + (P + P) * (1 + 2 * (v + P * u * (1 + 2 * v))) := by grind
theorem lg_pow : ∀ k : Nat, ∃ u v : Nat, ∀ x, itr lg (2 ^ k) x = x * (1 + 4 * 2 ^ k * u) + 2 ^ k * (1 + 2 * v)
 | 0 => ⟨1591034055961698251, 721347520444481703, fun x => by simp [itr, lg]⟩
 | k + 1 => by
  obtain ⟨u, v, h⟩ := lg_pow k
  refine ⟨u + 2 * 2 ^ k * u * u, v + 2 ^ k * u * (1 + 2 * v), fun x => ?_⟩
  have e : 2 ^ (k + 1) = 2 ^ k + 2 ^ k := by rw [Nat.pow_succ]; omega
  rw [e, itr_add, h, h]
  exact lg_id _ _ _ _
theorem lg_half (P u v z : Nat) : (z * (1 + 4 * P * u) + P * (1 + 2 * v)) % (2 * P) = (z + P) % (2 * P) := by
 have e : z * (1 + 4 * P * u) + P * (1 + 2 * v) = z + P + 2 * P * (2 * z * u + v) := by grind
 rw [e, Nat.add_mul_mod_self_left]
theorem mod_two (P a b : Nat) (hP : 0 < P) (h : a % P = b % P) : a % (2 * P) = b % (2 * P) ∨ (a + P) % (2 * P) = b % (2 * P) := by
 have e1 : a = P * (a / P) + b % P := by rw [← h]; exact (Nat.div_add_mod a P).symm
 have e2 : b = P * (b / P) + b % P := (Nat.div_add_mod b P).symm
 have lt : b % P < P := Nat.mod_lt _ hP
 generalize b % P = r at *
 generalize a / P = q1 at *
 generalize b / P = q2 at *
 subst e1
 have key : ∀ q : Nat, (P * q + r) % (2 * P) = P * (q % 2) + r := fun q => by
  have e3 : P * q + r = P * (q % 2) + r + 2 * P * (q / 2) := by
   have h9 : P * q = P * (2 * (q / 2) + q % 2) := by rw [Nat.div_add_mod]
   rw [h9]
   grind
  rw [e3, Nat.add_mul_mod_self_left]
  apply Nat.mod_eq_of_lt
  rcases Nat.mod_two_eq_zero_or_one q with h0 | h0 <;> rw [h0] <;> omega
 have e4 : P * q1 + r + P = P * (q1 + 1) + r := by grind
 rw [e2, e4, key, key, key]
 rcases Nat.mod_two_eq_zero_or_one q1 with h0 | h0 <;> rcases Nat.mod_two_eq_zero_or_one q2 with h1 | h1
 ·exact .inl (by rw [h0, h1])
 ·exact .inr (by rw [h1, show (q1 + 1) % 2 = 1 by omega])
 ·exact .inr (by rw [h1, show (q1 + 1) % 2 = 0 by omega])
 ·exact .inl (by rw [h0, h1])
theorem lg_reach : ∀ (k x y : Nat), ∃ t, t < 2 ^ k ∧ itr lg t x % 2 ^ k = y % 2 ^ k
 | 0, x, y => ⟨0, by simp, by simp [Nat.mod_one]⟩
 | k + 1, x, y => by
  obtain ⟨t, h1, h2⟩ := lg_reach k x y
  obtain ⟨u, v, h⟩ := lg_pow k
  have e : 2 ^ (k + 1) = 2 * 2 ^ k := by rw [Nat.pow_succ]; omega
  have hP : 0 < 2 ^ k := Nat.pow_pos (by omega)
  have h3 := h (itr lg t x)
  rw [← itr_add] at h3
  rw [e]
  rcases mod_two _ _ _ hP h2 with hc | hc
  ·exact ⟨t, by omega, hc⟩
  ·exact ⟨t + 2 ^ k, by omega, by rw [h3, lg_half _ _ _ _]; exact hc⟩
def byteOf (s : Nat) : Nat := s / 1099511627776 % 256
theorem byte_reach (x b : Nat) (hb : b < 256) : ∃ t, t < 281474976710656 ∧ byteOf (itr lg t x) = b := by
 obtain ⟨t, h1, h2⟩ := lg_reach 48 x (b * 1099511627776)
 refine ⟨t, by simpa using h1, ?_⟩
 unfold byteOf
 generalize itr lg t x = z at *
 simp only [Nat.reducePow] at h2
 omega
def nx (s b : Nat) : Nat := (s * 6364136223846793005 + b + 1442695040888963407) % 18446744073709551616
theorem itr_succ (f : Nat → Nat) (k x : Nat) : itr f (k + 1) x = itr f k (f x) := rfl
theorem nx_lg (s : Nat) : nx (s % 18446744073709551616) 0 = lg s % 18446744073709551616 := by
 unfold nx lg
 omega
theorem itr_nx : ∀ (t s : Nat), itr (fun s => nx s 0) t (s % 18446744073709551616) = itr lg t s % 18446744073709551616
 | 0, s => rfl
 | t + 1, s => by
  rw [itr_succ, itr_succ, ← itr_nx t (lg s), nx_lg]
theorem byte_mod (z : Nat) : byteOf (z % 18446744073709551616) = byteOf z := by unfold byteOf; omega
theorem nx_reach (s b : Nat) (hs : s < 18446744073709551616) (hb : b < 256) : ∃ t, t < 281474976710656 ∧ byteOf (itr (fun s => nx s 0) t s) = b := by
 obtain ⟨t, h1, h2⟩ := byte_reach s b hb
 refine ⟨t, h1, ?_⟩
 have := itr_nx t s
 rw [Nat.mod_eq_of_lt hs] at this
 rw [this, byte_mod]
 exact h2
end Go.Proofs.YtgmdpppljkmabaaGreat
namespace Go.Proofs.YtgmdpppljkmabaaGreat
open Go.RowKit
/-! rows of letters: the twins of the rows of ends (written by tools/letgen.py) -/
section
variable {ops : Array Oper} {rest : List Oper} {o : Oper} {a : Act} {Q : Exit → Act → World → Prop}
end
section
variable {ops : Array Oper} {rest : List Oper} {o : Oper} {a : Act} {Q : Exit → Act → World → Prop}
end
end Go.Proofs.YtgmdpppljkmabaaGreat
namespace Go.Proofs.YtgmdpppljkmabaaGreat
open Go.RowKit
/-! rows of rows of rows of letters -/
def EndSSS (w : World) (v : Value) (ess : List (List (List (Int × Int)))) : Prop :=
 ∃ (A : Option Addr) (c : Nat), v = .slice A ess.length c ∧ ess.length ≤ c ∧ c ≤ maxLen ∧
  (∀ k es, ess[k]? = some es → ∃ b off u, A = some ⟨b, off, none⟩ ∧ w.cell? ⟨b, off + k, none⟩ = some u ∧ EndSS w u es)
theorem EndSSS.keep {w w' : World} {v : Value} {xs : List (List (List (Int × Int)))} (h : EndSSS w v xs) (hb : Below w.heap.size w w') : EndSSS w' v xs := by
 obtain ⟨A, c, hv, hc, hm, hA⟩ := h
 refine ⟨A, c, hv, hc, hm, fun k x hk => ?_⟩
 obtain ⟨b, off, u, hA', h1, h2⟩ := hA k x hk
 exact ⟨b, off, u, hA', bc hb h1, h2.keep hb⟩
section
variable {ops : Array Oper} {rest : List Oper} {o : Oper} {a : Act} {Q : Exit → Act → World → Prop}
end
section
open Go.ChangeShapes Go.WideShapes Go.ChangeAt Go.Joins Go.Deep
variable {H : Type} {enc : TypeId × Value → H} {W : World}
end
end Go.Proofs.YtgmdpppljkmabaaGreat
namespace Go.Proofs.YtgmdpppljkmabaaGreat
open Go.RowKit
/-! states of asynchronous runs (written by tools/asygen.py) -/
structure ASt where
 rounds : List Int
 before : List Int
 now : List Int
 slots : List (List Int)
 flight : List (List (List (Int × Int)))
def AsIn (w : World) (a b c d f : Value) (x : ASt) : Prop := IntS w a x.rounds ∧ IntS w b x.before ∧ IntS w c x.now ∧ IntSS w d x.slots ∧ EndSSS w f x.flight
theorem AsIn.keep {w w' : World} {a b c d f : Value} {x : ASt} (h : AsIn w a b c d f x) (hb : Below w.heap.size w w') : AsIn w' a b c d f x := ⟨h.1.keep hb, h.2.1.keep hb, h.2.2.1.keep hb, h.2.2.2.1.keep hb, h.2.2.2.2.keep hb⟩
end Go.Proofs.YtgmdpppljkmabaaGreat
namespace Go.Proofs.YtgmdpppljkmabaaGreat
open Go.RowKit
theorem RowLaw.put {β : Type} {R : World → Nat → Value → β → List Nat → Prop} (L : RowLaw R) {w : World} {base : Nat} {v : Value} {x : β} {S : List Nat} (h : R w base v x S) {p : Addr} (hp : p.block < base) (u : Value) : R (w.setCell p u) base v x S := L.stable h fun k hk => Below.heap_setCell _ _ _ _ (by have := (L.range h k hk).1; omega)
theorem sizeSet (w : World) (p : Addr) (u : Value) : (w.setCell p u).heap.size = w.heap.size := by simp [World.setCell]
def BoxA (w : World) (b : Nat) (vs : Array Value) : Prop := ∃ r, w.heap[b]? = some (.cells vs r)
theorem BoxA.lt {w : World} {b : Nat} {vs : Array Value} (h : BoxA w b vs) : b < w.heap.size := by
 obtain ⟨r, h⟩ := h
 exact (Array.getElem?_eq_some_iff.1 h).1
theorem BoxA.below {w w' : World} {B b : Nat} {vs : Array Value} (h : BoxA w b vs) (hb : Below B w w') (hB : b < B) : BoxA w' b vs := by
 obtain ⟨r, h⟩ := h
 exact ⟨r, by rw [hb.block b hB]; exact h⟩
theorem BoxA.set {w : World} {b : Nat} {vs : Array Value} {u : Value} {p : Addr} (h : BoxA w b vs) (ha : p.block ≠ b) : BoxA (w.setCell p u) b vs := by
 obtain ⟨r, h⟩ := h
 exact ⟨r, by rw [Below.heap_setCell _ _ _ _ (fun e => ha e.symm)]; exact h⟩
theorem BoxA.cell {w : World} {b : Nat} {vs : Array Value} (h : BoxA w b vs) (i : Nat) (u : Value) (hi : vs[i]? = some u) : w.cell? ⟨b, i, none⟩ = some u ∧ w.frozen? ⟨b, i, none⟩ = false := by
 obtain ⟨r, h⟩ := h
 exact ⟨by simp [World.cell?, h, hi], by simp [World.frozen?, h]⟩
theorem BoxA.alloc {w : World} {b : Nat} {vs : Array Value} (h : BoxA w b vs) (o : Obj) : BoxA (w.alloc o) b vs := h.below (below_alloc w o) h.lt
theorem BoxA.new (w : World) (vs : Array Value) (t : TypeId) : BoxA (w.alloc (.cells vs t)) w.heap.size vs := ⟨t, by show (w.heap.push _)[w.heap.size]? = _; rw [Array.getElem?_push_size]⟩
end Go.Proofs.YtgmdpppljkmabaaGreat
namespace Go.Proofs.YtgmdpppljkmabaaGreat
open Go Go.RowKit
/-! the cursor of the draws: one block of memory that all its methods write -/
theorem boxA_put {w : World} {b : Nat} {vs : Array Value} (h : BoxA w b vs) (i : Nat) (u : Value) : BoxA (w.setCell ⟨b, i, none⟩ u) b (vs.setIfInBounds i u) := by
 obtain ⟨r, h⟩ := h
 refine ⟨r, ?_⟩
 simp [World.setCell, Array.getElem?_modify, h]
structure CB (cb B : Nat) (w w' : World) : Prop where
 os : w'.os = w.os
 tape : w'.tape = w.tape
 output : w'.output = w.output
 size : w.heap.size ≤ w'.heap.size
 block : ∀ k, k < B → k ≠ cb → w'.heap[k]? = w.heap[k]?
theorem CB.refl (cb B : Nat) (w : World) : CB cb B w w := ⟨rfl, rfl, rfl, Nat.le_refl _, fun _ _ _ => rfl⟩
theorem CB.trans {cb B : Nat} {a b c : World} (h : CB cb B a b) (k : CB cb B b c) : CB cb B a c :=
 ⟨k.os.trans h.os, k.tape.trans h.tape, k.output.trans h.output, Nat.le_trans h.size k.size, fun i hi hn => (k.block i hi hn).trans (h.block i hi hn)⟩
theorem CB.mono {cb B B' : Nat} {w w' : World} (h : CB cb B w w') (hB : B' ≤ B) : CB cb B' w w' := ⟨h.os, h.tape, h.output, h.size, fun k hk hn => h.block k (by omega) hn⟩
theorem CB.of {cb B : Nat} {w w' : World} (h : Below B w w') : CB cb B w w' := ⟨h.os, h.tape, h.output, h.size, fun k hk _ => h.block k hk⟩
theorem CB.below {cb B : Nat} {w w' : World} (h : CB cb B w w') (hB : B ≤ cb) : Below B w w' := ⟨h.os, h.tape, h.output, h.size, fun k hk => h.block k hk (by omega)⟩
theorem CB.setCell {cb B : Nat} {a w : World} (h : CB cb B a w) {p : Addr} (hp : B ≤ p.block ∨ p.block = cb) (u : Value) : CB cb B a (w.setCell p u) :=
 h.trans ⟨rfl, rfl, rfl, by simp [World.setCell], fun k hk hn => Below.heap_setCell _ _ _ _ (by omega)⟩
theorem CB.cell {cb B : Nat} {w w' : World} (h : CB cb B w w') {p : Addr} (hp : p.block < B) (hn : p.block ≠ cb) : w'.cell? p = w.cell? p := World.cell?_of_block (w := w) (h.block p.block hp hn)
theorem cell_lt {w : World} {p : Addr} {v : Value} (h : w.cell? p = some v) : p.block < w.heap.size := by
 rcases Nat.lt_or_ge p.block w.heap.size with hl | hl
 ·exact hl
 ·exfalso
  have e : w.heap[p.block]? = none := Array.getElem?_eq_none hl
  simp [World.cell?, e] at h
def Seen (cb : Nat) (w0 W : World) : Prop := CB cb w0.heap.size w0 W
theorem Seen.refl (cb : Nat) (w : World) : Seen cb w w := CB.refl _ _ _
theorem Seen.trans {cb : Nat} {w0 W W' : World} (h : Seen cb w0 W) (h' : CB cb W.heap.size W W') : Seen cb w0 W' := CB.trans h (h'.mono h.size)
theorem Seen.after {cb : Nat} {w0 W W' : World} (h : Seen cb w0 W) (h' : Since W W') : Seen cb w0 W' := h.trans (CB.of h')
theorem seen_cell {cb : Nat} {w0 : World} {p : Addr} {v : Value} (h : w0.cell? p = some v) (hn : p.block ≠ cb) : ∀ W, Seen cb w0 W → W.cell? p = some v := fun W hW => by
 rw [CB.cell hW ?_ hn]
 ·exact h
 ·exact cell_lt h
def CodeIn (w : World) (cb : Nat) (A : Option Addr) (L : Nat) : Prop := ∀ k, k < L → ∃ b off v, A = some ⟨b, off, none⟩ ∧ b < cb ∧ w.cell? ⟨b, off + k, none⟩ = some (.int .u8 v) ∧ 0 ≤ v ∧ v < 256
theorem CodeIn.keep {w w' : World} {cb : Nat} {A : Option Addr} {L : Nat} (h : CodeIn w cb A L) (hb : ∀ k, k < cb → w'.heap[k]? = w.heap[k]?) : CodeIn w' cb A L := fun k hk => by
 obtain ⟨b, off, v, hA, hlt, hc, h1, h2⟩ := h k hk
 exact ⟨b, off, v, hA, hlt, by rw [World.cell?_of_block (w := w) (hb b hlt)]; exact hc, h1, h2⟩
structure Cur (w : World) (cb : Nat) (A : Option Addr) (L c p s : Nat) : Prop where
 cells : ∃ r, w.heap[cb]? = some (.cells #[.slice A L c, .int .i64 p, .int .u64 s] r)
 code : CodeIn w cb A L
 len : L ≤ 1048576
 cap : L ≤ c
 seed : s < 18446744073709551616
theorem Cur.keep {w w' : World} {cb : Nat} {A : Option Addr} {L c p s : Nat} (h : Cur w cb A L c p s) (hb : ∀ k, k < cb + 1 → w'.heap[k]? = w.heap[k]?) : Cur w' cb A L c p s := by
 obtain ⟨⟨r, h1⟩, h2, h3, h4, h5⟩ := h
 exact ⟨⟨r, (hb cb (by omega)).trans h1⟩, h2.keep (fun k hk => hb k (by omega)), h3, h4, h5⟩
theorem Cur.lt {w : World} {cb : Nat} {A : Option Addr} {L c p s : Nat} (h : Cur w cb A L c p s) : cb < w.heap.size := by
 obtain ⟨⟨r, h1⟩, _⟩ := h
 exact (Array.getElem?_eq_some_iff.1 h1).1
theorem Cur.since {w w' : World} {cb : Nat} {A : Option Addr} {L c p s : Nat} (h : Cur w cb A L c p s) (hs : Since w w') : Cur w' cb A L c p s := h.keep fun k hk => hs.block k (by have := h.lt; omega)
theorem Cur.cellsOf {w : World} {cb : Nat} {A : Option Addr} {L c p s : Nat} (h : Cur w cb A L c p s) : w.cell? ⟨cb, 0, none⟩ = some (.slice A L c) ∧ w.cell? ⟨cb, 1, none⟩ = some (.int .i64 p) ∧ w.cell? ⟨cb, 2, none⟩ = some (.int .u64 s) := by
 obtain ⟨⟨r, h1⟩, _⟩ := h
 have hb : BoxA w cb #[.slice A L c, .int .i64 p, .int .u64 s] := ⟨r, h1⟩
 exact ⟨(hb.cell 0 _ rfl).1, (hb.cell 1 _ rfl).1, (hb.cell 2 _ rfl).1⟩
end Go.Proofs.YtgmdpppljkmabaaGreat
namespace Go.Proofs.YtgmdpppljkmabaaGreat
open Go Go.RowKit
/-! the next byte, a number, one of n -/
theorem u64_eq (n : Int) : IntKind.u64.wrap n = n % 18446744073709551616 := by simp [IntKind.wrap, IntKind.bits, IntKind.signed]
theorem nx_int (s b : Nat) (hb : b < 256) : IntKind.u64.wrap (IntKind.u64.wrap (IntKind.u64.wrap ((s : Int) * 6364136223846793005) + (b : Int)) + 1442695040888963407) = ((nx s b : Nat) : Int) := by
 rw [u64_eq, u64_eq, u64_eq]
 unfold nx
 omega
theorem byte_and (z : Nat) (hz : z < 18446744073709551616) : wrap64 (bits BinOp.and IntKind.u64 ((z : Int) / 1099511627776) 255) = ((byteOf z : Nat) : Int) := by
 have h := bits_and_u64_nat (z / 1099511627776) 255 (by omega) (by omega)
 have e : (((z / 1099511627776 : Nat)) : Int) = (z : Int) / 1099511627776 := by simp
 have e2 : z / 1099511627776 &&& 255 = byteOf z := Nat.and_two_pow_sub_one_eq_mod _ 8
 rw [e, e2] at h
 rw [show ((255 : Nat) : Int) = 255 from rfl] at h
 rw [h]
 have : byteOf z < 256 := by unfold byteOf; omega
 unfold wrap64
 omega
theorem nx_lt (s b : Nat) : nx s b < 18446744073709551616 := Nat.mod_lt _ (by omega)
set_option maxHeartbeats 4000000 in
theorem next_any (cb : Nat) (A : Option Addr) (L c p s : Nat) (w : World) (h : Cur w cb A L c p s) (hp : p ≤ 4611686018427387904) :
  Calls Tryz.prog 136 #[.pointer (some ⟨cb, 0, none⟩)] w fun e w' => ∃ x s' : Nat, e = .returned (.int .i64 x) ∧ x < 256 ∧ Cur w' cb A L c (p + 1) s' ∧ (L ≤ p → s' = nx s 0 ∧ x = byteOf s') ∧ CB cb w.heap.size w w' := by
 obtain ⟨k0, k1, k2⟩ := h.cellsOf
 have p0 := have_cell k0
 have p1 := have_cell k1
 have p2 := have_cell k2
 have hL := h.len
 have hc := h.cap
 have H := Lib.hid h
 clear h k0 k1 k2
 by_cases hlt : p < L
 ·obtain ⟨b, off, v, rfl, hb, hv, hv0, hv1⟩ := H.out.code p hlt
  have pv := have_cell hv
  clear hv
  go_enter Tryz.func136, Tryz.ntmps136
  go_upto_region 2 with (fail)
  refine wp_region_flow 10 (Since w) (by kernel_rfl) (by kernel_rfl) (by simp) (since_drew (since_refl _)) ?_
  simp only [List.take_succ_cons, List.take_zero, List.drop_succ_cons, List.drop_zero]
  refine flow_val (v := ?_) rfl ?_ ?_; rotate_left; (intro W hW; go_simp; with_reducible rfl)
  simp only [zA]
  refine flow_val (v := ?_) rfl ?_ ?_; rotate_left; (intro W hW; go_simp; with_reducible rfl)
  simp only [zA]
  refine flow_val (v := ?_) rfl ?_ ?_; rotate_left; (intro W hW; go_simp; with_reducible rfl)
  simp only [zA]
  refine flow_val (v := ?_) rfl ?_ ?_; rotate_left; (intro W hW; go_simp; with_reducible rfl)
  simp only [zA]
  refine flow_val (v := ?_) rfl ?_ ?_; rotate_left; (intro W hW; go_simp; with_reducible rfl)
  simp only [zA]
  refine flow_val (v := ?_) rfl ?_ ?_; rotate_left; (intro W hW; go_simp; with_reducible rfl)
  simp only [zA]
  refine flow_val (v := ?_) rfl ?_ ?_; rotate_left; (intro W hW; go_simp; with_reducible rfl)
  simp only [zA]
  refine flow_val (v := ?_) rfl ?_ ?_; rotate_left; (intro W hW; go_simp; with_reducible rfl)
  simp only [zA]
  refine flow_val (v := ?_) rfl ?_ ?_; rotate_left; (intro W hW; go_simp; with_reducible rfl)
  simp only [zA]
  refine flow_val (v := ?_) rfl ?_ ?_; rotate_left; (intro W hW; go_simp; with_reducible rfl)
  simp only [zA]
  intro W hW
  go_upto_region 3 with (fail)
  obtain ⟨v, rfl⟩ : ∃ n : Nat, v = (n : Int) := ⟨v.toNat, by omega⟩
  have hv2 : v < 256 := by omega
  clear hv0 hv1
  refine wp_region_flow 10 (Since w) (by kernel_rfl) (by kernel_rfl) (by simp) (since_drew hW) ?_
  simp only [List.take_succ_cons, List.take_zero, List.drop_succ_cons, List.drop_zero]
  refine flow_val (v := ?_) rfl ?_ ?_; rotate_left; (intro W hW; go_simp; with_reducible rfl)
  simp only [zA]
  refine flow_val (v := ?_) rfl ?_ ?_; rotate_left; (intro W hW; go_simp; with_reducible rfl)
  simp only [zA]
  refine flow_val (v := ?_) rfl ?_ ?_; rotate_left; (intro W hW; go_simp; with_reducible rfl)
  simp only [zA]
  refine flow_val (v := ?_) rfl ?_ ?_; rotate_left; (intro W hW; go_simp; with_reducible rfl)
  simp only [zA]
  refine flow_val (v := ?_) rfl ?_ ?_; rotate_left; (intro W hW; go_simp; with_reducible rfl)
  simp only [zA]
  refine flow_val (v := ?_) rfl ?_ ?_; rotate_left; (intro W hW; go_simp; with_reducible rfl)
  simp only [zA]
  refine flow_val (v := ?_) rfl ?_ ?_; rotate_left; (intro W hW; go_simp; with_reducible rfl)
  simp only [zA]
  refine flow_val (v := ?_) rfl ?_ ?_; rotate_left; (intro W hW; go_simp; with_reducible rfl)
  simp only [zA]
  refine flow_val (v := ?_) rfl ?_ ?_; rotate_left; (intro W hW; go_simp; with_reducible rfl)
  simp only [zA]
  refine flow_val (v := ?_) rfl ?_ ?_; rotate_left; (intro W hW; go_simp; with_reducible rfl)
  simp only [zA]
  clear hW
  intro W2 hW
  have hbx : BoxA W2 cb #[.slice (some ⟨b, off, none⟩) L c, .int .i64 p, .int .u64 s] := by
   obtain ⟨r, hr⟩ := H.out.cells
   exact ⟨r, (hW.block cb H.out.lt).trans hr⟩
  have m1 : IntKind.i64.wrap ((p : Int) + 1) = (p : Int) + 1 := wr64 _ (by omega) (by omega)
  have m2 := nx_int s v (by omega)
  have f1 := (hbx.cell 1 _ rfl).2
  have f2 := (hbx.cell 2 _ rfl).2
  have g0 := (hbx.cell 0 _ rfl).1
  have g1 := (hbx.cell 1 _ rfl).1
  have g2 := (hbx.cell 2 _ rfl).1
  have Hb := Lib.hid hbx
  clear hbx p0 p1 p2 pv
  go_upto_region 6 with (fail)
  obtain ⟨w3, hw3⟩ : ∃ z, z = (W2.setCell ⟨cb, 1, none⟩ (.int .i64 ((p : Int) + 1))).setCell ⟨cb, 2, none⟩ (.int .u64 (nx s v : Nat)) := ⟨_, rfl⟩
  rw [← hw3]
  have hb3 : BoxA w3 cb #[.slice (some ⟨b, off, none⟩) L c, .int .i64 ((p : Int) + 1), .int .u64 (nx s v : Nat)] := by rw [hw3]; exact boxA_put (boxA_put Hb.out 1 _) 2 _
  have hC3 : CB cb w.heap.size w w3 := by rw [hw3]; exact ((CB.of hW).setCell (p := ⟨cb, 1, none⟩) (.inr rfl) _).setCell (p := ⟨cb, 2, none⟩) (.inr rfl) _
  have q0 := have_cell (hb3.cell 0 _ rfl).1
  have q1 := have_cell (hb3.cell 1 _ rfl).1
  have q2 := have_cell (hb3.cell 2 _ rfl).1
  have Hb3 := Lib.hid hb3
  have HC3 := Lib.hid hC3
  clear hb3 hC3 hw3 g0 g1 g2 f1 f2 hW Hb
  refine wp_region_flow 10 (Since w3) (by kernel_rfl) (by kernel_rfl) (by simp) (since_drew (since_refl _)) ?_
  simp only [List.take_succ_cons, List.take_zero, List.drop_succ_cons, List.drop_zero]
  refine flow_val (v := ?_) rfl ?_ ?_; rotate_left; (intro W hW; go_simp; with_reducible rfl)
  simp only [zA]
  refine flow_val (v := ?_) rfl ?_ ?_; rotate_left; (intro W hW; go_simp; with_reducible rfl)
  simp only [zA]
  refine flow_val (v := ?_) rfl ?_ ?_; rotate_left; (intro W hW; go_simp; with_reducible rfl)
  simp only [zA]
  refine flow_val (v := ?_) rfl ?_ ?_; rotate_left; (intro W hW; go_simp; with_reducible rfl)
  simp only [zA]
  refine flow_val (v := ?_) rfl ?_ ?_; rotate_left; (intro W hW; go_simp; with_reducible rfl)
  simp only [zA]
  refine flow_val (v := ?_) rfl ?_ ?_; rotate_left; (intro W hW; go_simp; with_reducible rfl)
  simp only [zA]
  refine flow_val (v := ?_) rfl ?_ ?_; rotate_left; (intro W hW; go_simp; with_reducible rfl)
  simp only [zA]
  refine flow_val (v := ?_) rfl ?_ ?_; rotate_left; (intro W hW; go_simp; with_reducible rfl)
  simp only [zA]
  refine flow_val (v := ?_) rfl ?_ ?_; rotate_left; (intro W hW; go_simp; with_reducible rfl)
  simp only [zA]
  refine flow_val (v := ?_) rfl ?_ ?_; rotate_left; (intro W hW; go_simp; with_reducible rfl)
  simp only [zA]
  intro W4 hW4
  have hle : ((p : Int) + 1 ≤ (L : Int)) = True := by simp; omega
  go_wp2_with fail
  go_ret
  refine ⟨v, nx s v, rfl, hv2, ⟨?_, ?_, hL, hc, nx_lt _ _⟩, fun h => absurd h (by omega), HC3.out.trans (CB.mono (CB.of hW4) HC3.out.size)⟩
  ·obtain ⟨r, hr⟩ := Hb3.out
   exact ⟨r, (hW4.block cb (Hb3.out.lt)).trans hr⟩
  ·exact H.out.code.keep (fun k hk => by
    have h1 := H.out.lt
    have h2 := HC3.out.size
    exact (hW4.block k (by omega)).trans (HC3.out.block k (by omega) (by omega)))
 ·have hge : ((p : Int) < (L : Int)) = False := by simp; omega
  go_enter Tryz.func136, Tryz.ntmps136
  go_upto_region 2 with (fail)
  refine wp_region_flow 10 (Since w) (by kernel_rfl) (by kernel_rfl) (by simp) (since_drew (since_refl _)) ?_
  simp only [List.take_succ_cons, List.take_zero, List.drop_succ_cons, List.drop_zero]
  refine flow_val (v := ?_) rfl ?_ ?_; rotate_left; (intro W hW; go_simp; with_reducible rfl)
  simp only [zA]
  refine flow_val (v := ?_) rfl ?_ ?_; rotate_left; (intro W hW; go_simp; with_reducible rfl)
  simp only [zA]
  refine flow_val (v := ?_) rfl ?_ ?_; rotate_left; (intro W hW; go_simp; with_reducible rfl)
  simp only [zA]
  refine flow_val (v := ?_) rfl ?_ ?_; rotate_left; (intro W hW; go_simp; with_reducible rfl)
  simp only [zA]
  refine flow_val (v := ?_) rfl ?_ ?_; rotate_left; (intro W hW; go_simp; with_reducible rfl)
  simp only [zA]
  refine flow_val (v := ?_) rfl ?_ ?_; rotate_left; (intro W hW; go_simp; with_reducible rfl)
  simp only [zA]
  refine flow_val (v := ?_) rfl ?_ ?_; rotate_left; (intro W hW; go_simp; with_reducible rfl)
  simp only [zA]
  refine flow_val (v := ?_) rfl ?_ ?_; rotate_left; (intro W hW; go_simp; with_reducible rfl)
  simp only [zA]
  refine flow_val (v := ?_) rfl ?_ ?_; rotate_left; (intro W hW; go_simp; with_reducible rfl)
  simp only [zA]
  refine flow_val (v := ?_) rfl ?_ ?_; rotate_left; (intro W hW; go_simp; with_reducible rfl)
  simp only [zA]
  intro W2 hW
  have hbx : BoxA W2 cb #[.slice A L c, .int .i64 p, .int .u64 s] := by
   obtain ⟨r, hr⟩ := H.out.cells
   exact ⟨r, (hW.block cb H.out.lt).trans hr⟩
  have m1 : IntKind.i64.wrap ((p : Int) + 1) = (p : Int) + 1 := wr64 _ (by omega) (by omega)
  have m2 : IntKind.u64.wrap (IntKind.u64.wrap (IntKind.u64.wrap ((s : Int) * 6364136223846793005)) + 1442695040888963407) = ((nx s 0 : Nat) : Int) := by have := nx_int s 0 (by omega); simpa using this
  have f1 := (hbx.cell 1 _ rfl).2
  have f2 := (hbx.cell 2 _ rfl).2
  have g0 := (hbx.cell 0 _ rfl).1
  have g1 := (hbx.cell 1 _ rfl).1
  have g2 := (hbx.cell 2 _ rfl).1
  have Hb := Lib.hid hbx
  clear hbx p0 p1 p2
  go_upto_region 6 with (fail)
  obtain ⟨w3, hw3⟩ : ∃ z, z = (W2.setCell ⟨cb, 1, none⟩ (.int .i64 ((p : Int) + 1))).setCell ⟨cb, 2, none⟩ (.int .u64 (nx s 0 : Nat)) := ⟨_, rfl⟩
  rw [← hw3]
  have hb3 : BoxA w3 cb #[.slice A L c, .int .i64 ((p : Int) + 1), .int .u64 (nx s 0 : Nat)] := by rw [hw3]; exact boxA_put (boxA_put Hb.out 1 _) 2 _
  have hC3 : CB cb w.heap.size w w3 := by rw [hw3]; exact ((CB.of hW).setCell (p := ⟨cb, 1, none⟩) (.inr rfl) _).setCell (p := ⟨cb, 2, none⟩) (.inr rfl) _
  have q0 := have_cell (hb3.cell 0 _ rfl).1
  have q1 := have_cell (hb3.cell 1 _ rfl).1
  have q2 := have_cell (hb3.cell 2 _ rfl).1
  have Hb3 := Lib.hid hb3
  have HC3 := Lib.hid hC3
  clear hb3 hC3 hw3 g0 g1 g2 f1 f2 hW Hb
  refine wp_region_flow 10 (Since w3) (by kernel_rfl) (by kernel_rfl) (by simp) (since_drew (since_refl _)) ?_
  simp only [List.take_succ_cons, List.take_zero, List.drop_succ_cons, List.drop_zero]
  refine flow_val (v := ?_) rfl ?_ ?_; rotate_left; (intro W hW; go_simp; with_reducible rfl)
  simp only [zA]
  refine flow_val (v := ?_) rfl ?_ ?_; rotate_left; (intro W hW; go_simp; with_reducible rfl)
  simp only [zA]
  refine flow_val (v := ?_) rfl ?_ ?_; rotate_left; (intro W hW; go_simp; with_reducible rfl)
  simp only [zA]
  refine flow_val (v := ?_) rfl ?_ ?_; rotate_left; (intro W hW; go_simp; with_reducible rfl)
  simp only [zA]
  refine flow_val (v := ?_) rfl ?_ ?_; rotate_left; (intro W hW; go_simp; with_reducible rfl)
  simp only [zA]
  refine flow_val (v := ?_) rfl ?_ ?_; rotate_left; (intro W hW; go_simp; with_reducible rfl)
  simp only [zA]
  refine flow_val (v := ?_) rfl ?_ ?_; rotate_left; (intro W hW; go_simp; with_reducible rfl)
  simp only [zA]
  refine flow_val (v := ?_) rfl ?_ ?_; rotate_left; (intro W hW; go_simp; with_reducible rfl)
  simp only [zA]
  refine flow_val (v := ?_) rfl ?_ ?_; rotate_left; (intro W hW; go_simp; with_reducible rfl)
  simp only [zA]
  refine flow_val (v := ?_) rfl ?_ ?_; rotate_left; (intro W hW; go_simp; with_reducible rfl)
  simp only [zA]
  intro W4 hW4
  have hle : ((p : Int) + 1 ≤ (L : Int)) = False := by simp; omega
  go_wp2_with fail
  go_ret
  refine ⟨byteOf (nx s 0), nx s 0, by rw [byte_and _ (nx_lt _ _)]; rfl, by unfold byteOf; omega, ⟨?_, ?_, hL, hc, nx_lt _ _⟩, fun _ => ⟨rfl, rfl⟩, HC3.out.trans (CB.mono (CB.of hW4) HC3.out.size)⟩
  ·obtain ⟨r, hr⟩ := Hb3.out
   exact ⟨r, (hW4.block cb (Hb3.out.lt)).trans hr⟩
  ·exact H.out.code.keep (fun k hk => by
    have h1 := H.out.lt
    have h2 := HC3.out.size
    exact (hW4.block k (by omega)).trans (HC3.out.block k (by omega) (by omega)))
set_option maxHeartbeats 4000000 in
theorem pick_any (cb : Nat) (A : Option Addr) (L c p s n : Nat) (w : World) (h : Cur w cb A L c p s) (hp : p ≤ 4611686018427387000) (hn : n ≤ 1048576) :
  Calls Tryz.prog 62 #[.pointer (some ⟨cb, 0, none⟩), .int .i64 n] w fun e w' => ∃ x p' s' : Nat, e = .returned (.int .i64 x) ∧ (x = 0 ∨ x < n) ∧ p ≤ p' ∧ p' ≤ p + 2 ∧ Cur w' cb A L c p' s' ∧ (2 ≤ n → n ≤ 200 → p' = p + 1 ∧ (L ≤ p → s' = nx s 0 ∧ x = byteOf s' % n)) ∧ CB cb w.heap.size w w' := by
 have H := Lib.hid h
 clear h
 go_enter Tryz.func62, Tryz.ntmps62
 by_cases h1 : n ≤ 1
 ·have e1 : ((n : Int) ≤ 1) = True := by simp; omega
  go_wp2_with fail
  go_ret
  exact ⟨0, p, s, rfl, .inl rfl, Nat.le_refl _, by omega, H.out, fun h => absurd h (by omega), CB.refl _ _ _⟩
 ·have e1 : ((n : Int) ≤ 1) = False := by simp; omega
  go_wp2_with fail
  refine (next_any cb A L c p s _ H.out (by omega)).mono ?_
  rintro e w1 ⟨x, s1, rfl, hx, hc1, hl1, hC1⟩
  have HC := Lib.hid hC1
  have Hc1 := Lib.hid hc1
  have Hl := Lib.hid hl1
  clear hc1 hl1 hC1
  by_cases h2 : n ≤ 200
  ·have e2 : ((200 : Int) < (n : Int)) = False := by simp; omega
   have m1 : IntKind.i64.wrap ((x : Int) % (n : Int)) = (x : Int) % (n : Int) := by
    have q1 := Int.emod_nonneg (x : Int) (show (n : Int) ≠ 0 by omega)
    have q2 := Int.emod_lt_of_pos (x : Int) (show (0 : Int) < n by omega)
    exact wr64 _ (by omega) (by omega)
   have m2 : (x : Int).tmod (n : Int) = (x : Int) % (n : Int) := Int.tmod_eq_emod_of_nonneg (by omega)
   have m3 : ((n : Int) = 0) = False := by simp; omega
   have m4 : (n = 0) = False := by simp; omega
   go_wp2_with fail
   go_ret
   refine ⟨x % n, p + 1, s1, ret_int (by simp), .inr (Nat.mod_lt _ (by omega)), by omega, by omega, Hc1.out, fun _ _ => ⟨rfl, fun h => ?_⟩, HC.out⟩
   obtain ⟨q1, q2⟩ := Hl.out h
   exact ⟨q1, by rw [q2]⟩
  ·have e2 : ((200 : Int) < (n : Int)) = True := by simp; omega
   have m5 : IntKind.i64.wrap ((x : Int) * 256) = (x : Int) * 256 := wr64 _ (by omega) (by omega)
   go_wp2_with fail
   refine (next_any cb A L c (p + 1) s1 _ Hc1.out (by omega)).mono ?_
   rintro e w2 ⟨y, s2, rfl, hy, hc2, hl2, hC2⟩
   have HC2 := Lib.hid hC2
   have Hc2 := Lib.hid hc2
   clear hc2 hl2 hC2
   obtain ⟨z, hz⟩ : ∃ z : Nat, z = x * 256 + y := ⟨_, rfl⟩
   have m6 : (x : Int) * 256 + (y : Int) = (z : Int) := by omega
   have m7 : IntKind.i64.wrap (z : Int) = (z : Int) := wr64 _ (by omega) (by omega)
   have m1 : IntKind.i64.wrap ((z : Int) % (n : Int)) = (z : Int) % (n : Int) := by
    have q1 := Int.emod_nonneg (z : Int) (show (n : Int) ≠ 0 by omega)
    have q2 := Int.emod_lt_of_pos (z : Int) (show (0 : Int) < n by omega)
    exact wr64 _ (by omega) (by omega)
   have m2 : (z : Int).tmod (n : Int) = (z : Int) % (n : Int) := Int.tmod_eq_emod_of_nonneg (by omega)
   have m3 : ((n : Int) = 0) = False := by simp; omega
   have m4 : (n = 0) = False := by simp; omega
   clear hz
   go_wp2_with fail
   go_ret
   refine ⟨z % n, p + 1 + 1, s2, ret_int (by simp), .inr (Nat.mod_lt _ (by omega)), by omega, by omega, Hc2.out, fun _ h => absurd h (by omega), HC.out.trans (HC2.out.mono HC.out.size)⟩
end Go.Proofs.YtgmdpppljkmabaaGreat
namespace Go.Proofs.YtgmdpppljkmabaaGreat
open Go Go.RowKit
/-! the cursor with a bound of its place; one, among, perm -/
def CurP (w : World) (cb : Nat) (A : Option Addr) (L c P : Nat) : Prop := ∃ p s, Cur w cb A L c p s ∧ p ≤ P
theorem CurP.lt {w : World} {cb : Nat} {A : Option Addr} {L c P : Nat} (h : CurP w cb A L c P) : cb < w.heap.size := by obtain ⟨p, s, h, _⟩ := h; exact h.lt
theorem CurP.since {w w' : World} {cb : Nat} {A : Option Addr} {L c P : Nat} (h : CurP w cb A L c P) (hs : Since w w') : CurP w' cb A L c P := by obtain ⟨p, s, h, hp⟩ := h; exact ⟨p, s, h.since hs, hp⟩
theorem CurP.keep {w w' : World} {cb : Nat} {A : Option Addr} {L c P : Nat} (h : CurP w cb A L c P) (hb : ∀ k, k < cb + 1 → w'.heap[k]? = w.heap[k]?) : CurP w' cb A L c P := by obtain ⟨p, s, h, hp⟩ := h; exact ⟨p, s, h.keep hb, hp⟩
theorem CurP.mono {w : World} {cb : Nat} {A : Option Addr} {L c P P' : Nat} (h : CurP w cb A L c P) (hP : P ≤ P') : CurP w cb A L c P' := by obtain ⟨p, s, h, hp⟩ := h; exact ⟨p, s, h, by omega⟩
theorem RowLaw.seen {β : Type} {R : World → Nat → Value → β → List Nat → Prop} (L : RowLaw R) {w w' : World} {base cb : Nat} {v : Value} {x : β} {S : List Nat} (h : R w base v x S) (hC : Seen cb w w') (hb : cb < base) : R w' base v x S :=
 L.stable h fun k hk => hC.block k (L.range h k hk).2 (by have := (L.range h k hk).1; omega)
theorem OwnNet.seen {w w' : World} {base cb : Nat} {a b d : Value} {n : Net} {S : List Nat} (h : OwnNet w base a b d n S) (hC : Seen cb w w') (hb : cb < base) : OwnNet w' base a b d n S :=
 h.stable fun k hk => hC.block k (h.range k hk).2 (by have := (h.range k hk).1; omega)
theorem Own.seen {w w' : World} {base cb : Nat} {v : Value} {xs : List Int} (h : Own w base v xs) (hC : Seen cb w w') (hb : cb < base) : Own w' base v xs := (RowLaw.seen lawI (S := v.ownBlock.toList) ⟨h, rfl⟩ hC hb).1
theorem pick_p (cb : Nat) (A : Option Addr) (L c P : Nat) (z : Int) (w : World) (h : CurP w cb A L c P) (hP : P ≤ 4611686018427387000) (hz : 0 ≤ z ∧ z ≤ 1048576) :
  Calls Tryz.prog 62 #[.pointer (some ⟨cb, 0, none⟩), .int .i64 z] w fun e w' => ∃ x : Nat, e = .returned (.int .i64 x) ∧ (x = 0 ∨ (x : Int) < z) ∧ CurP w' cb A L c (P + 2) ∧ CB cb w.heap.size w w' := by
 obtain ⟨p, s, h, hp⟩ := h
 obtain ⟨n, rfl⟩ : ∃ n : Nat, z = (n : Int) := ⟨z.toNat, by omega⟩
 refine (pick_any cb A L c p s n w h (by omega) (by omega)).mono ?_
 rintro e w' ⟨x, p', s', rfl, hx, h1, h2, hc, _, hC⟩
 exact ⟨x, rfl, by omega, ⟨p', s', hc, by omega⟩, hC⟩
set_option maxHeartbeats 2000000 in
theorem one_p (cb : Nat) (A : Option Addr) (L c P : Nat) (z : Int) (w : World) (h : CurP w cb A L c P) (hP : P ≤ 4611686018427387000) (hz : 0 ≤ z ∧ z ≤ 1048576) :
  Calls Tryz.prog 94 #[.pointer (some ⟨cb, 0, none⟩), .int .i64 z] w fun e w' => ∃ b : Bool, e = .returned (.bool b) ∧ CurP w' cb A L c (P + 2) ∧ CB cb w.heap.size w w' := by
 have H := Lib.hid h
 clear h
 go_enter Tryz.func94, Tryz.ntmps94
 go_wp2_with fail
 refine (pick_p cb A L c P z _ H.out hP hz).mono ?_
 rintro e w1 ⟨x, rfl, -, hc1, hC1⟩
 have HC := Lib.hid hC1
 have Hc1 := Lib.hid hc1
 clear hc1 hC1
 go_wp2_with fail
 go_ret
 exact ⟨_, rfl, Hc1.out, HC.out⟩
set_option maxHeartbeats 2000000 in
theorem among_p (cb : Nat) (A : Option Addr) (L c P : Nat) (B g q : Nat) (xs : List Int) (w : World) (h : CurP w cb A L c P) (hP : P ≤ 4611686018427387000) (ho : Own w B (.slice (some ⟨g, 0, none⟩) xs.length q) xs) (hB : cb < B) (hx : 1 ≤ xs.length) (hx2 : xs.length ≤ 1048576) :
  Calls Tryz.prog 68 #[.pointer (some ⟨cb, 0, none⟩), .slice (some ⟨g, 0, none⟩) xs.length q] w fun e w' => ∃ x, e = .returned (.int .i64 x) ∧ x ∈ xs ∧ CurP w' cb A L c (P + 2) ∧ CB cb w.heap.size w w' := by
 have H := Lib.hid h
 have Ho := Lib.hid ho
 clear h ho
 go_enter Tryz.func68, Tryz.ntmps68
 go_wp2_with fail
 refine (pick_p cb A L c P xs.length _ H.out hP (by omega)).mono ?_
 rintro e w1 ⟨x, rfl, hx3, hc1, hC1⟩
 have hxl : x < xs.length := by omega
 obtain ⟨y, hy⟩ := getx xs x hxl
 have c1 := (Ho.out.seen (cb := cb) hC1 hB).cell hy
 have Hy := Lib.hid hy
 have HC := Lib.hid hC1
 have Hc1 := Lib.hid hc1
 clear hc1 hC1 hy hx3
 go_wp2_with fail
 go_ret
 exact ⟨y, rfl, List.mem_of_getElem? Hy.out, Hc1.out, HC.out⟩
end Go.Proofs.YtgmdpppljkmabaaGreat
namespace Go.Proofs.YtgmdpppljkmabaaGreat
open Go Go.RowKit
/-! a row of numbers below n -/
def Below0 (n : Nat) (xs : List Int) : Prop := ∀ x ∈ xs, 0 ≤ x ∧ x < (n : Int)
theorem Below0.set {n : Nat} {xs : List Int} (h : Below0 n xs) (k : Nat) {x : Int} (hx : 0 ≤ x ∧ x < (n : Int)) : Below0 n (xs.set k x) := fun y hy => by
 rcases List.mem_or_eq_of_mem_set hy with h1 | h1
 ·exact h y h1
 ·rw [h1]; exact hx
set_option maxHeartbeats 8000000 in
theorem perm_p (cb : Nat) (A : Option Addr) (L c P n : Nat) (w : World) (h : CurP w cb A L c P) (hP : P ≤ 4611686018427000000) (hn : n ≤ 100) :
  Calls Tryz.prog 138 #[.pointer (some ⟨cb, 0, none⟩), .int .i64 n] w fun e w' => ∃ g xs, e = .returned (.slice (some ⟨g, 0, none⟩) n n) ∧ Own w' w.heap.size (.slice (some ⟨g, 0, none⟩) n n) xs ∧ Below0 n xs ∧ CurP w' cb A L c (P + 200) ∧ CB cb w.heap.size w w' := by
 have H := Lib.hid h
 have hcb := h.lt
 clear h
 go_enter Tryz.func138, Tryz.ntmps138
 go_wp2_with (at_make; refine mk_ints _ rfl _ _ rfl _ _ n rfl rfl rfl rfl (by omega) ?_; intro w1 ho1 hb1 hz1; have hs1 : Since w w1 := hb1)
 have Hz1 := Lib.hid hz1
 clear hb1 hz1
 go_loopw [14] (fun i wr => ∃ (k : Nat) (xs : List Int), k ≤ n ∧ i = .int .i64 k ∧ Own wr w.heap.size (.slice (some ⟨w.heap.size, 0, none⟩) n n) xs ∧ Below0 n xs ∧ Since w wr ∧ w.heap.size < wr.heap.size) (fun i _ => n - (intOf i).toNat)
 case atStart =>
  refine ⟨0, _, Nat.zero_le _, rfl, ho1, fun x hx => ?_, hs1, Hz1.out⟩
  obtain ⟨h1, rfl⟩ := List.mem_replicate.1 hx
  omega
 case round =>
  obtain ⟨k, xs, hk, rfl, ho, hB, hsr, hzr⟩ := hrel
  have HB := Lib.hid hB
  have Hsr := Lib.hid hsr
  have Ho := Lib.hid ho
  have Hzr := Lib.hid hzr
  by_cases hlt : k < n
  ·have f0 := ho.free k
   obtain ⟨y, hy⟩ := getx xs k (by have := ho.len; omega)
   have c0 := ho.cell hy
   have m1 : IntKind.i64.wrap ((k : Int) + 1) = (k : Int) + 1 := wr64 _ (by omega) (by omega)
   clear ho hB hsr hzr hy ho1 hs1
   go_wp2
   go_roundw
   case rel =>
    refine ⟨k + 1, _, by omega, by first | rfl | go_num, Ho.out.set (k : Int), HB.out.set k (by omega), Hsr.out.setCell (by simp) _, ?_⟩
    show _ < (wr.setCell _ _).heap.size
    rw [sizeSet]
    exact Hzr.out
   case measure => simp [intOf]; omega
  ·obtain rfl : k = n := by omega
   have Hho1 := Lib.hid ho1
   clear ho hB hsr hzr ho1 hs1
   have m1 : IntKind.i64.wrap ((k : Int) - 1) = (k : Int) - 1 := wr64 _ (by omega) (by omega)
   obtain ⟨wo, rfl⟩ : ∃ z, z = wr := ⟨_, rfl⟩
   go_wp2
   go_loopw [7] (fun i wr => ∃ (z : Int) (xs : List Int), -1 ≤ z ∧ z < (k : Int) ∧ i = .int .i64 z ∧ Own wr w.heap.size (.slice (some ⟨w.heap.size, 0, none⟩) k k) xs ∧ Below0 k xs ∧ CurP wr cb A L c (P + 2 * (k - z.toNat)) ∧ CB cb w.heap.size w wr ∧ w.heap.size < wr.heap.size) (fun i _ => (intOf i).toNat)
   case atStart => exact ⟨(k : Int) - 1, xs, by omega, by omega, by go_num, Ho.out, HB.out, (H.out.since Hsr.out).mono (by omega), CB.of Hsr.out, Hzr.out⟩
   case round =>
    obtain ⟨z, ys, hz1, hz2, rfl, ho, hB, hc, hC, hzr2⟩ := hrel
    have HB2 := Lib.hid hB
    have Ho2 := Lib.hid ho
    have Hc2 := Lib.hid hc
    have HC2 := Lib.hid hC
    have Hzr2 := Lib.hid hzr2
    clear ho hB hc hC hzr2
    by_cases hgt : 0 < z
    ·obtain ⟨j, rfl⟩ : ∃ j : Nat, z = (j : Int) := ⟨z.toNat, by omega⟩
     have hj1 : 1 ≤ j := by omega
     have hj2 : j < k := by omega
     have m2 : IntKind.i64.wrap ((j : Int) + 1) = (j : Int) + 1 := wr64 _ (by omega) (by omega)
     have m3 : IntKind.i64.wrap ((j : Int) - 1) = (j : Int) - 1 := wr64 _ (by omega) (by omega)
     clear hz1 hz2
     go_wp2_with fail
     refine (pick_p cb A L c _ ((j : Int) + 1) wr Hc2.out (by omega) (by omega)).mono ?_
     rintro e w3 ⟨x, rfl, hx, hc3, hC3⟩
     have hxk : x < k := by omega
     have ho3 := Ho2.out.seen (cb := cb) hC3 hcb
     have hlen := ho3.len
     obtain ⟨a, ha⟩ := getx ys j (by omega)
     obtain ⟨b, hb⟩ := getx ys x (by omega)
     have c1 := ho3.cell ha
     have c2 := ho3.cell hb
     have f1 := ho3.free j
     have f2 := ho3.free x
     have Ho3 := Lib.hid ho3
     have Hc3 := Lib.hid hc3
     have HC3 := Lib.hid hC3
     have Ha := Lib.hid (HB2.out a (List.mem_of_getElem? ha))
     have Hbm := Lib.hid (HB2.out b (List.mem_of_getElem? hb))
     have Hlen := Lib.hid hlen
     clear hx ho3 hc3 hC3 ha hb hlen
     go_upto_region 13 with (fail)
     have ho4 := Ho3.out.set (k := j) b
     have hC4 : CB cb w.heap.size w3 (w3.setCell ⟨w.heap.size, j, none⟩ (.int .i64 b)) := (CB.refl cb w.heap.size w3).setCell (p := ⟨w.heap.size, j, none⟩) (.inl (Nat.le_refl _)) _
     have hk4 : ∀ q, q < cb + 1 → (w3.setCell ⟨w.heap.size, j, none⟩ (.int .i64 b)).heap[q]? = w3.heap[q]? := fun q hq => Below.heap_setCell _ _ _ _ (by show q ≠ w.heap.size; omega)
     obtain ⟨w4, hw4⟩ : ∃ z, z = w3.setCell ⟨w.heap.size, j, none⟩ (.int .i64 b) := ⟨_, rfl⟩
     rw [← hw4] at ho4 hC4 hk4 ⊢
     obtain ⟨d, hd⟩ := getx (ys.set j b) x (by rw [List.length_set, Hlen.out]; exact hxk)
     have c4 := ho4.cell hd
     have f4 := ho4.free x
     have Ho4 := Lib.hid ho4
     have HC4 := Lib.hid hC4
     have Hk4 := Lib.hid hk4
     clear hw4 hd ho4 hC4 hk4 c1 c2 f1 f2
     go_wp2
     go_roundw
     case rel =>
      have hh : w.heap.size < w4.heap.size := Nat.lt_of_lt_of_le Hzr2.out (Nat.le_trans HC3.out.size HC4.out.size)
      refine ⟨(j : Int) - 1, (ys.set j b).set x a, by omega, by omega, by first | rfl | go_num, Ho4.out.set a, (HB2.out.set j Hbm.out).set x Ha.out, ?_, ((HC2.out.trans (HC3.out.mono (by have := Hzr2.out; omega))).trans HC4.out).setCell (p := ⟨w.heap.size, x, none⟩) (.inl (Nat.le_refl _)) _, by rw [sizeSet]; exact hh⟩
      have h1 := (Hc3.out.keep Hk4.out).keep (w' := w4.setCell ⟨w.heap.size, x, none⟩ (.int .i64 a)) (fun q hq => Below.heap_setCell _ _ _ _ (by show q ≠ w.heap.size; omega))
      exact h1.mono (by omega)
     case measure => simp [intOf]; omega
    ·have HF := Lib.hid hgt
     go_wp2
     go_ret
     exact ⟨w.heap.size, rfl, ys, Ho2.out, HB2.out, Hc2.out.mono (by omega), HC2.out⟩
end Go.Proofs.YtgmdpppljkmabaaGreat
