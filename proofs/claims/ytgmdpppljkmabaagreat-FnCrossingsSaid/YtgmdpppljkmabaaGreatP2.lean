/- Parts of the proof: walks of functions and plain laws. -/
import Derived.Test.YtgmdpppljkmabaaGreatP0
import Derived.Orders
import Derived.Below
import Derived.Tactics
namespace Go.Proofs.YtgmdpppljkmabaaGreat
open Go Go.RowKit
/-! A region that draws its order, walked once in the order of its text: each operation answers alike in every world of Inv. -/
section
variable {P : Program} {ops : Array Oper} {Inv : World → Prop}
def Since (w0 W : World) : Prop := Below w0.heap.size w0 W
theorem Since.drew (w0 : World) : Since w0 w0.drew := (Below.refl _ _).drew
theorem Since.trans {w0 W W' : World} (h : Since w0 W) (h' : Below W.heap.size W W') : Since w0 W' := Below.trans h (h'.mono h.size)
def Gives (P : Program) (Inv : World → Prop) (o : Oper) (A : Act) (W : World) (v : Value) : Prop :=
 match (execOp A.eval o).run P W with
 | .ok (.value u) W' => u = v ∧ Inv W'
 | .ok .skip W' => undef = v ∧ Inv W'
 | .ok (.enter f args) W' => Calls P f args W' fun e W'' => e = .returned v ∧ Inv W''
 | _ => False
def StepOk (P : Program) (ops : Array Oper) (Inv : World → Prop) (o : Oper) (A : Act) (v : Value) : Prop :=
 ∀ W, Inv W → (Region.wanted o (yielded ops A.tmps) = true ∧ Gives P Inv o A W v) ∨ (Region.wanted o (yielded ops A.tmps) = false ∧ v = undef)
def Flow (P : Program) (ops : Array Oper) (Inv : World → Prop) (fin : Act → Prop) : List Oper → Act → Prop
 | [], A => fin A
 | o :: rest, A => ∃ v, StepOk P ops Inv o A v ∧ Flow P ops Inv fin rest (A.put o.dst v)
def depsOf (o : Oper) : List Nat := o.after.toList.filterMap fun e => if Region.binds .any e then some e.on else none
theorem mem_deps {o : Oper} {j : Nat} : j ∈ depsOf o ↔ ∃ e ∈ o.after, Region.binds .any e = true ∧ e.on = j := by
 unfold depsOf
 rw [List.mem_filterMap]
 constructor
 ·rintro ⟨e, he, h⟩
  split at h
  ·rename_i hb; cases h; exact ⟨e, by simpa using he, hb, rfl⟩
  ·cases h
 ·rintro ⟨e, he, hb, rfl⟩
  exact ⟨e, by simpa using he, by simp [hb]⟩
inductive Anc (ops : Array Oper) (j : Nat) : Nat → Prop
 | dep {i : Nat} {o : Oper} : ops[i]? = some o → j ∈ depsOf o → Anc ops j i
 | step {m i : Nat} {o : Oper} : Anc ops j m → ops[i]? = some o → m ∈ depsOf o → Anc ops j i
def closRow (ops : Array Oper) (tbl : List (List Nat)) (i : Nat) : List Nat :=
 match ops[i]? with
 | none => []
 | some o => (List.range i).filter fun j => (depsOf o).contains j || (depsOf o).any fun m => (tbl.getD m []).contains j
def closTbl (ops : Array Oper) : Nat → List (List Nat)
 | 0 => []
 | n + 1 => let t := closTbl ops n; t ++ [closRow ops t n]
theorem closTbl_len (n : Nat) : (closTbl ops n).length = n := by
 induction n with
 | zero => rfl
 | succ n ih => simp [closTbl, ih]
theorem closTbl_sound (n : Nat) : ∀ i j, j ∈ (closTbl ops n).getD i [] → Anc ops j i := by
 induction n with
 | zero => intro i j h; simp [closTbl] at h
 | succ n ih =>
  intro i j h
  have hl := closTbl_len (ops := ops) n
  simp only [closTbl] at h
  rcases Nat.lt_trichotomy i n with hi | hi | hi
  ·rw [List.getD_eq_getElem?_getD, List.getElem?_append_left (by omega), ← List.getD_eq_getElem?_getD] at h
   exact ih i j h
  ·subst hi
   rw [List.getD_eq_getElem?_getD, List.getElem?_append_right (by omega), hl, Nat.sub_self] at h
   simp only [List.getElem?_cons_zero, Option.getD_some, closRow] at h
   cases ho : ops[i]? with
   | none => simp [ho] at h
   | some o =>
    simp only [ho, List.mem_filter, Bool.or_eq_true, List.any_eq_true, List.contains_iff_mem] at h
    rcases h.2 with h | ⟨m, hm, hj⟩
    ·exact .dep ho h
    ·exact .step (ih m j hj) ho hm
  ·rw [List.getD_eq_getElem?_getD, List.getElem?_append_right (by omega), hl, List.getElem?_eq_none (by simp; omega)] at h
   simp at h
def flowB (ops : Array Oper) (k : Nat) : Bool :=
 Region.noSelect ops &&
 ((List.range ops.size).all fun i => match ops[i]? with
  | none => true
  | some o => ((depsOf o).all fun j => decide (j < i)) &&
   (decide (k ≤ i) ||
    (((o.looksAt ops).all fun t => (List.range k).all fun j => match ops[j]? with
     | none => true
     | some oj => if oj.dst = some t then (depsOf o).contains j else true) &&
    ((List.range k).all fun j => match ops[j]? with
     | none => true
     | some oj => decide (j = i) || (match o.dst with | none => true | some d => oj.dst != some d)))) &&
   (decide (i < k) || ((List.range i).all fun j => ((closTbl ops (i + 1)).getD i []).contains j)))
structure FlowOk (ops : Array Oper) (k : Nat) : Prop where
 nosel : ∀ (j : Nat) (o : Oper) cs b, ops[j]? = some o → o.op ≠ .select cs b
 back : ∀ i o, ops[i]? = some o → ∀ j ∈ depsOf o, j < i
 looks : ∀ i o, i < k → ops[i]? = some o → ∀ t ∈ o.looksAt ops, ∀ j oj, j < k → ops[j]? = some oj → oj.dst = some t → j ∈ depsOf o
 dsts : ∀ i o, i < k → ops[i]? = some o → ∀ j oj, j < k → ops[j]? = some oj → ∀ d, o.dst = some d → oj.dst = some d → j = i
 tail : ∀ i, k ≤ i → i < ops.size → ∀ j, j < i → Anc ops j i
theorem flow_ok {k : Nat} (h : flowB ops k = true) : FlowOk ops k := by
 unfold flowB at h
 rw [Bool.and_eq_true, List.all_eq_true] at h
 obtain ⟨hs, h⟩ := h
 have key : ∀ (i : Nat) (o : Oper), ops[i]? = some o → _ := fun i o ho => by
  have := h i (List.mem_range.2 (Array.getElem?_eq_some_iff.1 ho).1)
  simp only [ho, Bool.and_eq_true] at this
  exact this
 refine ⟨fun j o cs b ho => Region.noSelect_spec hs j o cs b ho, fun i o ho j hj => ?_, fun i o hi ho t ht j oj hj hoj hd => ?_, fun i o hi ho j oj hj hoj d hd hd2 => ?_, fun i hki hi j hj => ?_⟩
 ·have := (key i o ho).1.1
  rw [List.all_eq_true] at this
  simpa using this j hj
 ·have := (key i o ho).1.2
  rw [Bool.or_eq_true] at this
  rcases this with h1 | h1
  ·simp at h1; omega
  ·rw [Bool.and_eq_true] at h1
   have h2 := List.all_eq_true.1 (List.all_eq_true.1 h1.1 t ht) j (List.mem_range.2 hj)
   simp only [hoj, hd, if_true] at h2
   simpa using h2
 ·have := (key i o ho).1.2
  rw [Bool.or_eq_true] at this
  rcases this with h1 | h1
  ·simp at h1; omega
  ·rw [Bool.and_eq_true] at h1
   have h2 := List.all_eq_true.1 h1.2 j (List.mem_range.2 hj)
   simp only [hoj, hd, hd2, Bool.or_eq_true, decide_eq_true_eq] at h2
   rcases h2 with h2 | h2
   ·exact h2
   ·simp at h2
 ·obtain ⟨o, ho⟩ : ∃ o, ops[i]? = some o := ⟨_, Array.getElem?_eq_getElem hi⟩
  have := (key i o ho).2
  rw [Bool.or_eq_true] at this
  rcases this with h1 | h1
  ·simp at h1; omega
  ·have h2 := List.all_eq_true.1 h1 j (List.mem_range.2 hj)
   exact closTbl_sound (i + 1) i j (by simpa using h2)

structure FrameIs (a : Act) (ops : Array Oper) (vals : Nat → Value) (D : Nat → Prop) (a' : Act) : Prop where
 defers : a'.defers = a.defers
 size : a'.tmps.size = a.tmps.size
 on : ∀ j o t, D j → ops[j]? = some o → o.dst = some t → t < a.tmps.size → a'.tmps[t]? = some (vals j)
 off : ∀ t, (∀ j o, D j → ops[j]? = some o → o.dst ≠ some t) → a'.tmps[t]? = a.tmps[t]?
theorem FrameIs.start (a : Act) (vals : Nat → Value) : FrameIs a ops vals (fun _ => False) a := ⟨rfl, rfl, fun _ _ _ h => h.elim, fun _ _ => rfl⟩
theorem FrameIs.put {a a' : Act} {vals : Nat → Value} {D : Nat → Prop} {i : Nat} {o : Oper} (h : FrameIs a ops vals D a') (ho : ops[i]? = some o) (hd : ∀ j oj d, D j → ops[j]? = some oj → o.dst = some d → oj.dst ≠ some d) :
  FrameIs a ops vals (fun j => D j ∨ j = i) (a'.put o.dst (vals i)) := by
 cases hod : o.dst with
 | none =>
  refine ⟨h.defers, h.size, fun j oj t hj hoj ht hlt => ?_, fun t ht => h.off t (fun j oj hj => ht j oj (.inl hj))⟩
  rcases hj with hj | rfl
  ·exact h.on j oj t hj hoj ht hlt
  ·rw [ho] at hoj; cases hoj; rw [hod] at ht; cases ht
 | some d =>
  refine ⟨h.defers, by simp [Act.put, h.size], fun j oj t hj hoj ht hlt => ?_, fun t ht => ?_⟩
  ·rcases hj with hj | rfl
   ·have hne : d ≠ t := fun e => hd j oj d hj hoj hod (by rw [e]; exact ht)
    simp only [Act.put]
    rw [Array.getElem?_setIfInBounds_ne hne]
    exact h.on j oj t hj hoj ht hlt
   ·rw [ho] at hoj; cases hoj; rw [hod] at ht; cases ht
    simp only [Act.put]
    rw [Array.getElem?_setIfInBounds_self_of_lt (by rw [h.size]; exact hlt)]
  ·have hne : d ≠ t := fun e => ht i o (.inr rfl) ho (by rw [hod, e])
   simp only [Act.put]
   rw [Array.getElem?_setIfInBounds_ne hne]
   exact h.off t (fun j oj hj => ht j oj (.inl hj))
theorem FrameIs.agree {a a1 a2 : Act} {vals : Nat → Value} {D E : Nat → Prop} (h1 : FrameIs a ops vals D a1) (h2 : FrameIs a ops vals E a2) (t : Tmp)
  (ht : ∀ j o, (D j ∨ E j) → ops[j]? = some o → o.dst = some t → D j ∧ E j) : a1.tmps[t]? = a2.tmps[t]? := by
 rcases Nat.lt_or_ge t a.tmps.size with hlt | hge
 ·by_cases hex : ∃ j o, (D j ∨ E j) ∧ ops[j]? = some o ∧ o.dst = some t
  ·obtain ⟨j, o, hj, ho, hd⟩ := hex
   obtain ⟨hD, hE⟩ := ht j o hj ho hd
   rw [h1.on j o t hD ho hd hlt, h2.on j o t hE ho hd hlt]
  ·rw [h1.off t (fun j o hj ho hd => hex ⟨j, o, .inl hj, ho, hd⟩), h2.off t (fun j o hj ho hd => hex ⟨j, o, .inr hj, ho, hd⟩)]
 ·rw [Array.getElem?_eq_none (by rw [h1.size]; exact hge), Array.getElem?_eq_none (by rw [h2.size]; exact hge)]
theorem FrameIs.ext {a a1 a2 : Act} {vals : Nat → Value} {D E : Nat → Prop} (h1 : FrameIs a ops vals D a1) (h2 : FrameIs a ops vals E a2) (hDE : ∀ j, j < ops.size → (D j ↔ E j)) : a1 = a2 := by
 have ht : a1.tmps = a2.tmps := by
  apply Array.ext_getElem?
  intro t
  refine h1.agree h2 t (fun j o hj ho _ => ?_)
  have := hDE j (Array.getElem?_eq_some_iff.1 ho).1
  rcases hj with hj | hj
  ·exact ⟨hj, this.1 hj⟩
  ·exact ⟨this.2 hj, hj⟩
 have hd : a1.defers = a2.defers := h1.defers.trans h2.defers.symm
 cases a1; cases a2; simp_all

theorem flow_frames {fin : Act → Prop} (l : List Oper) : ∀ (A : Act), Flow P ops Inv fin l A →
  ∃ (vals : Nat → Value) (F : Nat → Act), F 0 = A ∧ fin (F l.length) ∧ ∀ i o, l[i]? = some o → StepOk P ops Inv o (F i) (vals i) ∧ F (i + 1) = (F i).put o.dst (vals i) := by
 induction l with
 | nil => intro A h; exact ⟨fun _ => undef, fun _ => A, rfl, h, fun i o h => by simp at h⟩
 | cons o l ih =>
  intro A h
  obtain ⟨v, hs, hf⟩ := h
  obtain ⟨vals, F, h0, hfin, hstep⟩ := ih _ hf
  refine ⟨fun i => match i with | 0 => v | i + 1 => vals i, fun i => match i with | 0 => A | i + 1 => F i, rfl, hfin, ?_⟩
  intro i o' hi
  cases i with
  | zero => simp at hi; subst hi; exact ⟨hs, h0⟩
  | succ i => exact hstep i o' (by simpa using hi)

theorem filter_lt {l : List Nat} {p q : Nat → Bool} (h : ∀ x, q x = true → p x = true) {x : Nat} (hx : x ∈ l) (hp : p x = true) (hq : q x = false) : (l.filter q).length < (l.filter p).length := by
 induction l with
 | nil => simp at hx
 | cons y l ih =>
  have hle : (l.filter q).length ≤ (l.filter p).length := by
   clear ih hx
   induction l with
   | nil => simp
   | cons z l ih2 =>
    rw [List.filter_cons, List.filter_cons]
    cases hqz : q z
    ·cases hpz : p z <;> simp <;> omega
    ·rw [h z hqz]; simpa using ih2
  rw [List.filter_cons, List.filter_cons]
  rcases List.mem_cons.1 hx with rfl | hx
  ·rw [hp, hq]; simp; omega
  ·have := ih hx
   cases hqy : q y
   ·cases hpy : p y <;> simp <;> omega
   ·rw [h y hqy]; simpa using this

theorem anc_closed {D : Nat → Prop} (hc : ∀ i o, D i → ops[i]? = some o → ∀ j ∈ depsOf o, D j) {j i : Nat} (h : Anc ops j i) : D i → D j := by
 induction h with
 | dep ho hj => intro hi; exact hc _ _ hi ho _ hj
 | step _ ho hm ih => intro hi; exact ih (hc _ _ hi ho _ hm)
theorem anc_ready {D : Nat → Prop} (hc : ∀ i o, D i → ops[i]? = some o → ∀ j ∈ depsOf o, D j) {j i : Nat} {o : Oper} (ho : ops[i]? = some o) (hr : ∀ m ∈ depsOf o, D m) (h : Anc ops j i) : D j := by
 cases h with
 | dep ho' hj => rw [ho] at ho'; cases ho'; exact hr _ hj
 | step ha ho' hm => rw [ho] at ho'; cases ho'; exact anc_closed hc ha (hr _ hm)

theorem mem_ready' {j : Nat} {listed : Array Bool} : j ∈ Region.ready .any ops listed ↔ listed.getD j true = false ∧ ∃ o, ops[j]? = some o ∧ ∀ m ∈ depsOf o, listed.getD m false = true := by
 rw [mem_ready]
 constructor
 ·rintro ⟨h0, o, ho, h⟩
  refine ⟨h0, o, ho, fun m hm => ?_⟩
  obtain ⟨e, he, hb, rfl⟩ := mem_deps.1 hm
  exact h e he hb
 ·rintro ⟨h0, o, ho, h⟩
  exact ⟨h0, o, ho, fun e he hb => h e.on (mem_deps.2 ⟨e, he, hb, rfl⟩)⟩
theorem unlisted {listed : Array Bool} {j : Nat} (hj : j < listed.size) : listed.getD j true = listed.getD j false := by simp [hj]

theorem flow_tail {Q : Exit → Act → World → Prop} {k : Nat} (hf : FlowOk ops k) : ∀ (fuel m : Nat) (listed : Array Bool) (a : Act) (W : World), k ≤ m → m ≤ ops.size → ops.size - m ≤ fuel → listed.size = ops.size →
  (∀ j, j < ops.size → listed.getD j false = decide (j < m)) → wpList P ops Q (ops.toList.drop m) a W → wpAny P .any ops Q fuel listed a W := by
 have hready : ∀ (m : Nat) (listed : Array Bool), k ≤ m → m ≤ ops.size → listed.size = ops.size → (∀ j, j < ops.size → listed.getD j false = decide (j < m)) → ∀ i ∈ Region.ready .any ops listed, i = m := by
  intro m listed hkm hm hsz hl i hi
  obtain ⟨h0, o, ho, hdep⟩ := mem_ready'.1 hi
  have hin : i < ops.size := (Array.getElem?_eq_some_iff.1 ho).1
  rw [unlisted (by omega), hl i hin] at h0
  simp at h0
  rcases Nat.lt_or_ge m i with hlt | hge
  ·have := anc_ready (D := fun j => j < m) (fun i' o' hi' ho' j hj => by have := hf.back i' o' ho' j hj; omega) ho (fun d hd => by
    have h1 := hdep d hd
    have h2 := hf.back i o ho d hd
    rw [hl d (by omega)] at h1
    simpa using h1) (hf.tail i (by omega) hin m hlt)
   omega
  ·omega
 intro fuel
 induction fuel with
 | zero =>
  intro m listed a W hkm hm hfl hsz hl h
  obtain rfl : m = ops.size := by omega
  refine ⟨List.eq_nil_iff_forall_not_mem.2 (fun i hi => ?_), ?_⟩
  ·have := hready ops.size listed hkm hm hsz hl i hi
   obtain ⟨_, o, ho, _⟩ := mem_ready'.1 hi
   have := (Array.getElem?_eq_some_iff.1 ho).1
   omega
  ·rw [List.drop_of_length_le (by simp)] at h
   exact h
 | succ fuel ih =>
  intro m listed a W hkm hm hfl hsz hl h
  refine ⟨fun hnil => ?_, fun i hi => ?_⟩
  ·rcases Nat.lt_or_ge m ops.size with hlt | hge
   ·exfalso
    have hmem : m ∈ Region.ready .any ops listed := by
     refine mem_ready'.2 ⟨by rw [unlisted (by omega), hl m hlt]; simp, ops[m], Array.getElem?_eq_getElem hlt, fun d hd => ?_⟩
     have h2 := hf.back m _ (Array.getElem?_eq_getElem hlt) d hd
     rw [hl d (by omega)]; simpa using h2
    rw [hnil] at hmem
    simp at hmem
   ·rw [List.drop_of_length_le (by simp; omega)] at h
    exact h
  ·obtain rfl := hready m listed hkm hm hsz hl i hi
   obtain ⟨_, o, ho, _⟩ := mem_ready'.1 hi
   have hin : i < ops.size := (Array.getElem?_eq_some_iff.1 ho).1
   rw [List.drop_eq_getElem_cons (by simpa using hin)] at h
   have hoe : ops.toList[i]'(by simpa using hin) = o := by
    have := (Array.getElem?_eq_some_iff.1 ho).2
    simpa using this
   rw [hoe] at h
   unfold wpList at h
   unfold wpOp
   simp only [ho]
   have next : ∀ a W, wpList P ops Q (ops.toList.drop (i + 1)) a W → wpAny P .any ops Q fuel (listed.setIfInBounds i true) a W := fun a W h' =>
    ih (i + 1) _ a W (by omega) (by omega) (by omega) (by simpa using hsz) (fun j hj => by
     by_cases hji : i = j
     ·subst hji; simp [hsz, hin]
     ·rw [getD_set_ne false hji, hl j hj]
      simp; omega) h'
   split
   ·rename_i hw
    rw [if_pos hw] at h
    exact h.imp (Oper.wp_mono next) id
   ·rename_i hw
    rw [if_neg hw] at h
    exact next _ _ h

theorem flow_main {Q : Exit → Act → World → Prop} {k : Nat} (hf : FlowOk ops k) (hk : k ≤ ops.size) (a : Act) (vals : Nat → Value) (F : Nat → Act) (hF : ∀ i, i ≤ k → FrameIs a ops vals (fun j => j < i) (F i))
  (hstep : ∀ i o, i < k → ops[i]? = some o → StepOk P ops Inv o (F i) (vals i)) (hfin : ∀ W, Inv W → wpList P ops Q (ops.toList.drop k) (F k) W) :
  ∀ (fuel : Nat) (listed : Array Bool) (a' : Act) (W : World), listed.size = ops.size → (∀ i o, listed.getD i false = true → ops[i]? = some o → ∀ j ∈ depsOf o, listed.getD j false = true) → (∀ j, listed.getD j false = true → j < k) →
   (ops.size - k) + ((List.range k).filter fun j => !listed.getD j false).length ≤ fuel → FrameIs a ops vals (fun j => listed.getD j false = true) a' → Inv W → wpAny P .any ops Q fuel listed a' W := by
 intro fuel
 induction fuel with
 | zero =>
  intro listed a' W hsz hcl hlt hfl hfr hI
  have hall : ∀ j, j < k → listed.getD j false = true := fun j hj => by
   rcases hb : listed.getD j false with _ | _
   ·have : 0 < ((List.range k).filter fun j => !listed.getD j false).length := List.length_pos_of_mem (List.mem_filter.2 ⟨List.mem_range.2 hj, by simp [hb]⟩)
    omega
   ·rfl
  have hl : ∀ j, j < ops.size → listed.getD j false = decide (j < k) := fun j _ => by
   by_cases h : j < k
   ·rw [hall j h]; simp [h]
   ·cases hb : listed.getD j false
    ·simp [h]
    ·exact absurd (hlt j hb) h
  have : a' = F k := hfr.ext (hF k (Nat.le_refl _)) (fun j hj => by rw [hl j hj]; simp)
  subst this
  exact flow_tail hf 0 k listed _ W (Nat.le_refl _) hk (by omega) hsz hl (hfin W hI)
 | succ fuel ih =>
  intro listed a' W hsz hcl hlt hfl hfr hI
  by_cases hall : ∀ j, j < k → listed.getD j false = true
  ·have hl : ∀ j, j < ops.size → listed.getD j false = decide (j < k) := fun j _ => by
    by_cases h : j < k
    ·rw [hall j h]; simp [h]
    ·cases hb : listed.getD j false
     ·simp [h]
     ·exact absurd (hlt j hb) h
   have : a' = F k := hfr.ext (hF k (Nat.le_refl _)) (fun j hj => by rw [hl j hj]; simp)
   subst this
   exact flow_tail hf (fuel + 1) k listed _ W (Nat.le_refl _) hk (by omega) hsz hl (hfin W hI)
  ·obtain ⟨j0, hj0, hj0n⟩ : ∃ j, j < k ∧ listed.getD j false = false := by
    refine Classical.byContradiction fun hno => hall fun j hj => ?_
    cases hb : listed.getD j false
    ·exact absurd ⟨j, hj, hb⟩ hno
    ·rfl
   refine ⟨fun hnil => ?_, fun i hi => ?_⟩
   ·exfalso
    have : ∀ m, ∀ j, j ≤ m → j < k → listed.getD j false = false → False := by
     intro m
     induction m using Nat.strongRecOn with
     | ind m ihm =>
      intro j hjm hjk hjn
      have hjs : j < ops.size := by omega
      by_cases hd : ∀ d ∈ depsOf ops[j], listed.getD d false = true
      ·have hmem : j ∈ Region.ready .any ops listed := mem_ready'.2 ⟨by rw [unlisted (by omega)]; exact hjn, ops[j], Array.getElem?_eq_getElem hjs, hd⟩
       rw [hnil] at hmem
       simp at hmem
      ·obtain ⟨d, hd1, hd2⟩ : ∃ d, d ∈ depsOf ops[j] ∧ listed.getD d false = false := by
        refine Classical.byContradiction fun hno => hd fun d hd => ?_
        cases hb : listed.getD d false
        ·exact absurd ⟨d, hd, hb⟩ hno
        ·rfl
       have hdj := hf.back j _ (Array.getElem?_eq_getElem hjs) d hd1
       exact ihm d (by omega) d (Nat.le_refl _) (by omega) hd2
    exact this j0 j0 (Nat.le_refl _) hj0 hj0n
   ·obtain ⟨h0, o, ho, hdep⟩ := mem_ready'.1 hi
    have hin : i < ops.size := (Array.getElem?_eq_some_iff.1 ho).1
    rw [unlisted (by omega)] at h0
    have hik : i < k := by
     rcases Nat.lt_or_ge i k with h | h
     ·exact h
     ·have := anc_ready (D := fun j => listed.getD j false = true) hcl ho hdep (hf.tail i h hin j0 (by omega))
      simp only [hj0n] at this
      cases this
    have hag : ∀ t ∈ o.looksAt ops, a'.tmps[t]? = (F i).tmps[t]? := fun t ht => hfr.agree (hF i (by omega)) t (fun j oj hj hoj hd => by
     have hjk : j < k := by
      rcases hj with hj | hj
      ·exact hlt j hj
      ·omega
     have := hf.looks i o hik ho t ht j oj hjk hoj hd
     exact ⟨hdep j this, hf.back i o ho j this⟩)
    have he : execOp a'.eval o = execOp (F i).eval o := execOp_congr o (fun cs b => hf.nosel i o cs b ho) (fun x hx => by
     cases x with
     | tmp t =>
      have := hag t (List.mem_append_left _ (List.mem_filterMap.2 ⟨.tmp t, by simpa using hx, rfl⟩))
      simp [Act.eval, this]
     | _ => rfl)
    have hw : Region.wanted o (yielded ops a'.tmps) = Region.wanted o (yielded ops (F i).tmps) := by
     unfold Region.wanted
     cases hg : o.guard with
     | none => rfl
     | some gw =>
      obtain ⟨g, want⟩ := gw
      have : yielded ops a'.tmps g = yielded ops (F i).tmps g := by
       unfold yielded
       cases ht : (ops[g]?).bind (·.dst) with
       | none => rfl
       | some t =>
        have := hag t (by simp [Oper.looksAt, hg, ht])
        simp [this]
      simp only [this]
    have next : ∀ W', Inv W' → wpAny P .any ops Q fuel (listed.setIfInBounds i true) (a'.put o.dst (vals i)) W' := fun W' hI' => by
     have hset : ∀ j, (listed.setIfInBounds i true).getD j false = true ↔ (listed.getD j false = true ∨ j = i) := fun j => by
      by_cases hji : i = j
      ·subst hji; simp [hsz, hin]
      ·rw [getD_set_ne false hji]
       constructor
       ·exact .inl
       ·rintro (h | h)
        ·exact h
        ·exact absurd h.symm hji
     refine ih _ _ W' (by simpa using hsz) (fun i' o' hi' ho' j hj => ?_) (fun j hj => ?_) ?_ ?_ hI'
     ·rcases (hset i').1 hi' with h | rfl
      ·exact (hset j).2 (.inl (hcl i' o' h ho' j hj))
      ·rw [ho] at ho'; cases ho'
       exact (hset j).2 (.inl (hdep j hj))
     ·rcases (hset j).1 hj with h | rfl
      ·exact hlt j h
      ·exact hik
     ·have hlt' := filter_lt (l := List.range k) (p := fun j => !listed.getD j false) (q := fun j => !(listed.setIfInBounds i true).getD j false) (fun x hx => by
       cases hb : listed.getD x false
       ·rfl
       ·have := (hset x).2 (.inl hb)
        simp only [this] at hx
        cases hx) (List.mem_range.2 hik) (by simp only [h0]; rfl) (by simp only [(hset i).2 (.inr rfl)]; rfl)
      omega
     ·have := hfr.put (i := i) ho (fun j oj d hj hoj hd hd2 => by
       have := hf.dsts i o hik ho j oj (hlt j hj) hoj d hd hd2
       subst this
       rw [h0] at hj
       cases hj)
      refine ⟨this.defers, this.size, fun j oj t hj => this.on j oj t ((hset j).1 hj), fun t ht => this.off t (fun j oj hj => ht j oj ((hset j).2 hj))⟩
    unfold wpOp
    simp only [ho, hw]
    rcases hstep i o hik ho W hI with ⟨h1, h2⟩ | ⟨h1, h2⟩
    ·rw [if_pos h1]
     refine .inl ?_
     unfold Oper.wp
     unfold Gives at h2
     rw [he]
     generalize (execOp (F i).eval o).run P W = r at h2 ⊢
     cases r with
     | ok nx W' =>
      cases nx with
      | value u => simp only at h2; obtain ⟨rfl, h3⟩ := h2; exact next W' h3
      | skip => simp only at h2; obtain ⟨h4, h3⟩ := h2; simp only [Oper.upon]; rw [h4]; exact next W' h3
      | enter f args =>
       simp only at h2
       simp only [Oper.upon]
       exact h2.mono fun e W'' ⟨he', h3⟩ => by subst he'; exact next W'' h3
      | _ => exact h2.elim
     | halt x W' => exact h2.elim
    ·rw [if_neg (by rw [h1]; simp)]
     have := next W hI
     rw [h2] at this
     exact this

theorem rep_false (n j : Nat) : (Array.replicate n false).getD j false = false := by
 rcases Nat.lt_or_ge j n with h | h
 ·simp [h]
 ·simp [h]
theorem wp_region_flow {Q : Exit → Act → World → Prop} {id : Nat} {a : Act} {w : World} (k : Nat) (Inv : World → Prop) (hm : P.follows .mixedOrders = true) (hf : flowB ops k = true) (hk : k ≤ ops.size) (hI : Inv w.drew)
  (h : Flow P ops Inv (fun A => ∀ W, Inv W → wpList P ops Q (ops.toList.drop k) A W) (ops.toList.take k) a) : (Code.region id ops true).wp P Q a w := by
 have hok := flow_ok hf
 obtain ⟨vals, F, h0, hfin, hst⟩ := flow_frames _ a h
 have hlen : (ops.toList.take k).length = k := by simp; omega
 rw [hlen] at hfin
 have hget : ∀ i o, i < k → ops[i]? = some o → (ops.toList.take k)[i]? = some o := fun i o hi ho => by
  rw [List.getElem?_take, if_pos hi]; simpa using ho
 have hF : ∀ i, i ≤ k → FrameIs a ops vals (fun j => j < i) (F i) := by
  intro i
  induction i with
  | zero => intro _; rw [h0]; exact ⟨rfl, rfl, fun j _ _ hj => absurd hj (by omega), fun _ _ => rfl⟩
  | succ i ih =>
   intro hi
   have hi' : i < ops.size := by omega
   have ho : ops[i]? = some ops[i] := Array.getElem?_eq_getElem hi'
   rw [(hst i _ (hget i _ (by omega) ho)).2]
   have := (ih (by omega)).put ho (fun j oj d hj hoj hd hd2 => by
    have := hok.dsts i _ (by omega) ho j oj (by omega) hoj d hd hd2
    omega)
   exact ⟨this.defers, this.size, fun j oj t hj => this.on j oj t (by omega), fun t ht => this.off t (fun j oj hj => ht j oj (by omega))⟩
 refine wp_region_any hm ?_
 have := flow_main (P := P) (Inv := Inv) hok hk a vals F hF (fun i o hi ho => (hst i o (hget i o hi ho)).1) hfin ops.size (Array.replicate ops.size false) a w.drew (by simp)
  (fun i o hi => by rw [rep_false] at hi; cases hi) (fun j hj => by rw [rep_false] at hj; cases hj) (by
   have : ((List.range k).filter fun j => !(Array.replicate ops.size false).getD j false).length ≤ k := by
    have := List.length_filter_le (fun j => !(Array.replicate ops.size false).getD j false) (List.range k)
    simpa using this
   omega) ⟨rfl, rfl, (fun j _ _ hj => by rw [rep_false] at hj; cases hj), fun _ _ => rfl⟩ hI
 exact this
theorem flow_val {fin : Act → Prop} {o : Oper} {rest : List Oper} {A : Act} {v : Value} (hw : Region.wanted o (yielded ops A.tmps) = true) (h : ∀ W, Inv W → (execOp A.eval o).run P W = .ok (.value v) W)
  (hr : Flow P ops Inv fin rest (A.put o.dst v)) : Flow P ops Inv fin (o :: rest) A :=
 ⟨v, fun W hI => .inl ⟨hw, by unfold Gives; rw [h W hI]; exact ⟨rfl, hI⟩⟩, hr⟩
theorem flow_skip {fin : Act → Prop} {o : Oper} {rest : List Oper} {A : Act} (hw : Region.wanted o (yielded ops A.tmps) = false)
  (hr : Flow P ops Inv fin rest (A.put o.dst undef)) : Flow P ops Inv fin (o :: rest) A := ⟨undef, fun _ _ => .inr ⟨hw, rfl⟩, hr⟩
theorem flow_op {fin : Act → Prop} {o : Oper} {rest : List Oper} {A : Act} (v : Value) (hw : Region.wanted o (yielded ops A.tmps) = true) (h : ∀ W, Inv W → Gives P Inv o A W v)
  (hr : Flow P ops Inv fin rest (A.put o.dst v)) : Flow P ops Inv fin (o :: rest) A := ⟨v, fun W hI => .inl ⟨hw, h W hI⟩, hr⟩
end
end Go.Proofs.YtgmdpppljkmabaaGreat
namespace Go.Proofs.YtgmdpppljkmabaaGreat
open Go Go.RowKit
section
variable {P : Program} {ops : Array Oper} {Inv : World → Prop}
theorem flow_list {Q : Exit → Act → World → Prop} {fin : Act → Prop} {rest : List Oper} (hfin : ∀ A, fin A → ∀ W, Inv W → wpList P ops Q rest A W) :
  ∀ (l : List Oper) (A : Act) (W : World), Inv W → Flow P ops Inv fin l A → wpList P ops Q (l ++ rest) A W
 | [], A, W, hI, h => hfin A h W hI
 | o :: l, A, W, hI, ⟨v, hv, h⟩ => by
  have next : ∀ W', Inv W' → wpList P ops Q (l ++ rest) (A.put o.dst v) W' := fun W' hI' => flow_list hfin l _ W' hI' h
  show wpList P ops Q (o :: (l ++ rest)) A W
  unfold wpList
  rcases hv W hI with ⟨h1, h2⟩ | ⟨h1, h2⟩
  ·rw [if_pos h1]
   refine .inl ?_
   unfold Oper.wp
   unfold Gives at h2
   generalize (execOp A.eval o).run P W = r at h2 ⊢
   cases r with
   | ok nx W' =>
    cases nx with
    | value u => simp only at h2; obtain ⟨rfl, h3⟩ := h2; exact next W' h3
    | skip => simp only at h2; obtain ⟨h4, h3⟩ := h2; simp only [Oper.upon]; rw [h4]; exact next W' h3
    | enter f args =>
     simp only at h2
     simp only [Oper.upon]
     exact h2.mono fun e W'' ⟨he', h3⟩ => by subst he'; exact next W'' h3
    | _ => exact h2.elim
   | halt x W' => exact h2.elim
  ·rw [if_neg (by rw [h1]; simp)]
   have := next W hI
   rw [h2] at this
   exact this
theorem wp_region_flow0 {Q : Exit → Act → World → Prop} {id : Nat} {a : Act} {w : World} (k : Nat) (Inv : World → Prop) (hI : Inv w)
  (h : Flow P ops Inv (fun A => ∀ W, Inv W → wpList P ops Q (ops.toList.drop k) A W) (ops.toList.take k) a) : (Code.region id ops false).wp P Q a w := by
 refine wp_region_list ?_
 have := flow_list (P := P) (ops := ops) (Q := Q) (rest := ops.toList.drop k) (fun A h => h) _ a w hI h
 rwa [List.take_append_drop] at this
theorem wanted_guard {o : Oper} {tmps : Array Value} {g : Nat} {e b : Bool} (hg : o.guard = some (g, e)) (hy : yielded ops tmps g = some b) : Region.wanted o (yielded ops tmps) = (b == e) := by
 unfold Region.wanted
 rw [hg]
 show (yielded ops tmps g == some e) = _
 rw [hy]
 cases b <;> cases e <;> rfl
def gv (b e : Bool) (v : Value) : Value := if b = e then v else undef
@[simp] theorem gv_live {b e : Bool} {v : Value} (h : b = e) : gv b e v = v := if_pos h
theorem flow_gop {fin : Act → Prop} {o : Oper} {rest : List Oper} {A : Act} {g : Nat} {e b : Bool} {v : Value} (hg : o.guard = some (g, e)) (hy : yielded ops A.tmps g = some b)
  (h : b = e → ∀ W, Inv W → Gives P Inv o A W v) (hr : Flow P ops Inv fin rest (A.put o.dst (gv b e v))) : Flow P ops Inv fin (o :: rest) A := by
 refine ⟨_, fun W hI => ?_, hr⟩
 rw [wanted_guard hg hy]
 by_cases hbe : b = e
 ·rw [gv_live hbe]
  exact .inl ⟨by simp [hbe], h hbe W hI⟩
 ·rw [show gv b e v = undef from if_neg hbe]
  exact .inr ⟨by simpa using hbe, rfl⟩
theorem flow_gval {fin : Act → Prop} {o : Oper} {rest : List Oper} {A : Act} {g : Nat} {e b : Bool} {v : Value} (hg : o.guard = some (g, e)) (hy : yielded ops A.tmps g = some b)
  (h : b = e → ∀ W, Inv W → (execOp A.eval o).run P W = .ok (.value v) W) (hr : Flow P ops Inv fin rest (A.put o.dst (gv b e v))) : Flow P ops Inv fin (o :: rest) A :=
 flow_gop hg hy (fun hb W hI => by unfold Gives; rw [h hb W hI]; exact ⟨rfl, hI⟩) hr
theorem wanted_guard2 {o : Oper} {tmps : Array Value} {g : Nat} {e' b e x : Bool} (hg : o.guard = some (g, e')) (hy : ((ops[g]?).bind (·.dst)).bind (tmps[·]?) = some (gv b e (.bool x))) : Region.wanted o (yielded ops tmps) = ((b == e) && (x == e')) := by
 unfold Region.wanted
 rw [hg]
 show (yielded ops tmps g == some e') = _
 unfold yielded
 rw [hy]
 by_cases hbe : b = e
 ·rw [gv_live hbe]
  subst hbe
  cases x <;> cases e' <;> simp
 ·rw [show gv b e (.bool x) = undef from if_neg hbe]
  have : (b == e) = false := by simpa using hbe
  rw [this]
  rfl
theorem flow_gop2 {fin : Act → Prop} {o : Oper} {rest : List Oper} {A : Act} {g : Nat} {e' b e x : Bool} {v : Value} (hg : o.guard = some (g, e')) (hy : ((ops[g]?).bind (·.dst)).bind (A.tmps[·]?) = some (gv b e (.bool x)))
  (h : b = e → x = e' → ∀ W, Inv W → Gives P Inv o A W v) (hr : Flow P ops Inv fin rest (A.put o.dst (gv ((b == e) && (x == e')) true v))) : Flow P ops Inv fin (o :: rest) A := by
 refine ⟨_, fun W hI => ?_, hr⟩
 rw [wanted_guard2 hg hy]
 by_cases hbe : ((b == e) && (x == e')) = true
 ·rw [gv_live hbe]
  have hbe' := hbe
  rw [Bool.and_eq_true, beq_iff_eq, beq_iff_eq] at hbe
  exact .inl ⟨hbe', h hbe.1 hbe.2 W hI⟩
 ·rw [show gv _ true v = undef from if_neg hbe]
  exact .inr ⟨by simpa using hbe, rfl⟩
theorem flow_gval2 {fin : Act → Prop} {o : Oper} {rest : List Oper} {A : Act} {g : Nat} {e' b e x : Bool} {v : Value} (hg : o.guard = some (g, e')) (hy : ((ops[g]?).bind (·.dst)).bind (A.tmps[·]?) = some (gv b e (.bool x)))
  (h : b = e → x = e' → ∀ W, Inv W → (execOp A.eval o).run P W = .ok (.value v) W) (hr : Flow P ops Inv fin rest (A.put o.dst (gv ((b == e) && (x == e')) true v))) : Flow P ops Inv fin (o :: rest) A :=
 flow_gop2 hg hy (fun hb hx W hI => by unfold Gives; rw [h hb hx W hI]; exact ⟨rfl, hI⟩) hr
theorem flow_gand {fin : Act → Prop} {d : Option Tmp} {ty : TypeId} {pos : String} {af : Array Edge} {c t : Operand} {rest : List Oper} {A : Act} {g : Nat} {e b x y : Bool} (hy : yielded ops A.tmps g = some b) (hc : A.eval c = gv b e (.bool x)) (hx : A.eval t = gv ((b == e) && (x == true)) true (.bool y))
  (hr : Flow P ops Inv fin rest (A.put d (gv b e (.bool (x && y))))) : Flow P ops Inv fin (⟨d, .pick c t (.const (.bool false)), ty, pos, af, some (g, e)⟩ :: rest) A := by
 refine flow_gval (v := .bool (x && y)) rfl hy (fun hb W hW => ?_) hr
 have hk : A.eval (.const (.bool false)) = .bool false := rfl
 clear hr
 rw [gv_live hb] at hc
 subst hb
 generalize A.eval = ev at hc hx hk ⊢
 cases x
 ·simp [execOp, hc, hk, go_sem]
 ·rw [gv_live (by simp)] at hx
  simp [execOp, hc, hx, hk, go_sem]
theorem flow_dead {fin : Act → Prop} {o : Oper} {rest : List Oper} {A : Act} {g : Nat} {e b : Bool} (hg : o.guard = some (g, e)) (hy : yielded ops A.tmps g = some b)
  (h : (b == e) = false) (hr : Flow P ops Inv fin rest (A.put o.dst undef)) : Flow P ops Inv fin (o :: rest) A :=
 flow_skip (by rw [wanted_guard hg hy]; exact h) hr
theorem flow_or {fin : Act → Prop} {d : Option Tmp} {ty : TypeId} {pos : String} {af : Array Edge} {c x : Operand} {rest : List Oper} {A : Act} {b y : Bool} (hc : A.eval c = .bool b) (hx : A.eval x = gv b false (.bool y))
  (hr : Flow P ops Inv fin rest (A.put d (.bool (b || y)))) : Flow P ops Inv fin (⟨d, .pick c (.const (.bool true)) x, ty, pos, af, none⟩ :: rest) A := by
 refine flow_val (v := .bool (b || y)) rfl (fun W hW => ?_) hr
 have hk : A.eval (.const (.bool true)) = .bool true := rfl
 clear hr
 generalize A.eval = ev at hc hx hk ⊢
 cases b
 ·rw [gv_live rfl] at hx
  simp [execOp, hc, hx, hk, go_sem]
 ·simp [execOp, hc, hk, go_sem]
theorem flow_and {fin : Act → Prop} {d : Option Tmp} {ty : TypeId} {pos : String} {af : Array Edge} {c x : Operand} {rest : List Oper} {A : Act} {b y : Bool} (hc : A.eval c = .bool b) (hx : A.eval x = gv b true (.bool y))
  (hr : Flow P ops Inv fin rest (A.put d (.bool (b && y)))) : Flow P ops Inv fin (⟨d, .pick c x (.const (.bool false)), ty, pos, af, none⟩ :: rest) A := by
 refine flow_val (v := .bool (b && y)) rfl (fun W hW => ?_) hr
 have hk : A.eval (.const (.bool false)) = .bool false := rfl
 clear hr
 generalize A.eval = ev at hc hx hk ⊢
 cases b
 ·simp [execOp, hc, hk, go_sem]
 ·rw [gv_live rfl] at hx
  simp [execOp, hc, hx, hk, go_sem]
end
@[simp] theorem since_refl (w : World) : Since w w := Below.refl _ _
@[simp] theorem since_alloc {w0 W : World} (o : Obj) (h : Since w0 W) : Since w0 (W.alloc o) := Below.alloc h h.size o
@[simp] theorem since_drew {w0 W : World} (h : Since w0 W) : Since w0 W.drew := Below.drew h
theorem since_below {w W : World} (h : Below w.heap.size w W) : Since w W := h
theorem Since.below {w W : World} (h : Since w W) : Below w.heap.size w W := h
theorem Since.after {a b c : World} (h : Since a b) (h' : Since b c) : Since a c := Since.trans h h'
theorem Since.cell {a b : World} (h : Since a b) {p : Addr} {v : Value} (hc : a.cell? p = some v) : b.cell? p = some v := bc h hc
theorem lift_cell {w0 w1 : World} {p : Addr} {v : Value} (f : ∀ W, Since w0 W → W.cell? p = some v) (h : Since w0 w1) : ∀ W, Since w1 W → W.cell? p = some v := fun W hW => f W (h.after hW)
theorem have_cell {w0 : World} {p : Addr} {v : Value} (h : w0.cell? p = some v) : ∀ W, Since w0 W → W.cell? p = some v := fun _ hW => bc hW h
end Go.Proofs.YtgmdpppljkmabaaGreat
namespace Go.Proofs.YtgmdpppljkmabaaGreat
open Go Go.RowKit
/-! A region that draws its order and makes two variables of a type of two integers: reads, two allocations, two stores. -/
section
variable {P : Program} {ops : Array Oper}
theorem inv_main {Q : Exit → Act → World → Prop} (hback : ∀ i o, ops[i]? = some o → ∀ j ∈ depsOf o, j < i) (J : (Nat → Prop) → Act → World → Prop)
  (hstep : ∀ (D : Nat → Prop) a w i o, J D a w → ops[i]? = some o → ¬ D i → (∀ d ∈ depsOf o, D d) → (∀ i o, D i → ops[i]? = some o → ∀ d ∈ depsOf o, D d) →
   if Region.wanted o (yielded ops a.tmps) = true then Oper.wp P o a w (J (fun j => D j ∨ j = i)) Q else J (fun j => D j ∨ j = i) (a.put o.dst undef) w)
  (hend : ∀ (D : Nat → Prop) a w, J D a w → (∀ i, i < ops.size → D i) → Q .normal a w) :
  ∀ (fuel : Nat) (listed : Array Bool) (a : Act) (W : World), listed.size = ops.size → (∀ i o, listed.getD i false = true → ops[i]? = some o → ∀ j ∈ depsOf o, listed.getD j false = true) →
   ((List.range ops.size).filter fun j => !listed.getD j false).length ≤ fuel → J (fun j => listed.getD j false = true) a W → wpAny P .any ops Q fuel listed a W := by
 have least : ∀ (listed : Array Bool), listed.size = ops.size → Region.ready .any ops listed = [] → ∀ m, ∀ j, j ≤ m → j < ops.size → listed.getD j false = true := by
  intro listed hsz hnil m
  induction m using Nat.strongRecOn with
  | ind m ihm =>
   intro j hjm hjs
   refine Classical.byContradiction fun hjn => ?_
   have hjn : listed.getD j false = false := by cases hb : listed.getD j false <;> simp_all
   have hmem : j ∈ Region.ready .any ops listed := mem_ready'.2 ⟨by rw [unlisted (by omega)]; exact hjn, ops[j], Array.getElem?_eq_getElem hjs, fun d hd => by
    have hdj := hback j _ (Array.getElem?_eq_getElem hjs) d hd
    exact ihm d (by omega) d (Nat.le_refl _) (by omega)⟩
   rw [hnil] at hmem
   simp at hmem
 intro fuel
 induction fuel with
 | zero =>
  intro listed a W hsz hcl hfl hJ
  have hall : ∀ j, j < ops.size → listed.getD j false = true := fun j hj => by
   rcases hb : listed.getD j false with _ | _
   ·have : 0 < ((List.range ops.size).filter fun j => !listed.getD j false).length := List.length_pos_of_mem (List.mem_filter.2 ⟨List.mem_range.2 hj, by simp [hb]⟩)
    omega
   ·rfl
  refine ⟨List.eq_nil_iff_forall_not_mem.2 fun i hi => ?_, hend _ a W hJ hall⟩
  obtain ⟨h0, o, ho, _⟩ := mem_ready'.1 hi
  have hin : i < ops.size := (Array.getElem?_eq_some_iff.1 ho).1
  rw [unlisted (by omega), hall i hin] at h0
  cases h0
 | succ fuel ih =>
  intro listed a W hsz hcl hfl hJ
  refine ⟨fun hnil => hend _ a W hJ fun j hj => least listed hsz hnil j j (Nat.le_refl _) hj, fun i hi => ?_⟩
  obtain ⟨h0, o, ho, hdep⟩ := mem_ready'.1 hi
  have hin : i < ops.size := (Array.getElem?_eq_some_iff.1 ho).1
  rw [unlisted (by omega)] at h0
  have hset : ∀ j, (listed.setIfInBounds i true).getD j false = true ↔ (listed.getD j false = true ∨ j = i) := fun j => by
   by_cases hji : i = j
   ·subst hji; simp [hsz, hin]
   ·rw [getD_set_ne false hji]
    constructor
    ·exact .inl
    ·rintro (h | h)
     ·exact h
     ·exact absurd h.symm hji
  have hD : (fun j => (listed.setIfInBounds i true).getD j false = true) = fun j => listed.getD j false = true ∨ j = i := funext fun j => propext (hset j)
  have next : ∀ a W, J (fun j => listed.getD j false = true ∨ j = i) a W → wpAny P .any ops Q fuel (listed.setIfInBounds i true) a W := fun a W hJ' => by
   refine ih _ a W (by simpa using hsz) (fun i' o' hi' ho' j hj => ?_) ?_ (by rw [hD]; exact hJ')
   ·rcases (hset i').1 hi' with h | rfl
    ·exact (hset j).2 (.inl (hcl i' o' h ho' j hj))
    ·rw [ho] at ho'; cases ho'
     exact (hset j).2 (.inl (hdep j hj))
   ·have hlt' := filter_lt (l := List.range ops.size) (p := fun j => !listed.getD j false) (q := fun j => !(listed.setIfInBounds i true).getD j false) (fun x hx => by
     cases hb : listed.getD x false
     ·rfl
     ·have := (hset x).2 (.inl hb)
      simp only [this] at hx
      cases hx) (List.mem_range.2 hin) (by simp only [h0]; rfl) (by simp only [(hset i).2 (.inr rfl)]; rfl)
    omega
  have := hstep (fun j => listed.getD j false = true) a W i o hJ ho (by rw [h0]; simp) hdep hcl
  unfold wpOp
  simp only [ho]
  split
  ·rename_i hw
   rw [if_pos hw] at this
   exact .inl (Oper.wp_mono next this)
  ·rename_i hw
   rw [if_neg hw] at this
   exact next _ _ this
theorem wp_region_inv {Q : Exit → Act → World → Prop} {id : Nat} {a : Act} {w : World} (hm : P.follows .mixedOrders = true) (hback : ∀ i o, ops[i]? = some o → ∀ j ∈ depsOf o, j < i) (J : (Nat → Prop) → Act → World → Prop)
  (h0 : J (fun _ => False) a w.drew)
  (hstep : ∀ (D : Nat → Prop) a w i o, J D a w → ops[i]? = some o → ¬ D i → (∀ d ∈ depsOf o, D d) → (∀ i o, D i → ops[i]? = some o → ∀ d ∈ depsOf o, D d) →
   if Region.wanted o (yielded ops a.tmps) = true then Oper.wp P o a w (J (fun j => D j ∨ j = i)) Q else J (fun j => D j ∨ j = i) (a.put o.dst undef) w)
  (hend : ∀ (D : Nat → Prop) a w, J D a w → (∀ i, i < ops.size → D i) → Q .normal a w) : (Code.region id ops true).wp P Q a w := by
 refine wp_region_any hm ?_
 refine inv_main (P := P) (Q := Q) hback J hstep hend ops.size (Array.replicate ops.size false) a w.drew (by simp) (fun i o hi => by rw [rep_false] at hi; cases hi) ?_ ?_
 ·have := List.length_filter_le (fun j => !(Array.replicate ops.size false).getD j false) (List.range ops.size)
  simpa using this
 ·have : (fun j => (Array.replicate ops.size false).getD j false = true) = fun _ => False := funext fun j => propext ⟨(fun h => by rw [rep_false] at h; cases h), fun h => h.elim⟩
  rw [this]
  exact h0
def PFlow (P : Program) (ops : Array Oper) (w0 : World) (fin : Act → Prop) : List Oper → Act → Prop
 | [], A => fin A
 | o :: rest, A => ∃ v, (Region.wanted o (yielded ops A.tmps) = true ∧ ∀ W, Since w0 W → (execOp A.eval o).run P W = .ok (.value v) W) ∧ PFlow P ops w0 fin rest (A.put o.dst v)
theorem pflow_val {w0 : World} {fin : Act → Prop} {o : Oper} {rest : List Oper} {A : Act} {v : Value} (hw : Region.wanted o (yielded ops A.tmps) = true) (h : ∀ W, Since w0 W → (execOp A.eval o).run P W = .ok (.value v) W)
  (hr : PFlow P ops w0 fin rest (A.put o.dst v)) : PFlow P ops w0 fin (o :: rest) A := ⟨v, ⟨hw, h⟩, hr⟩
theorem pflow_frames {w0 : World} {fin : Act → Prop} (l : List Oper) : ∀ (A : Act), PFlow P ops w0 fin l A →
  ∃ (vals : Nat → Value) (F : Nat → Act), F 0 = A ∧ fin (F l.length) ∧ ∀ i o, l[i]? = some o → (Region.wanted o (yielded ops (F i).tmps) = true ∧ ∀ W, Since w0 W → (execOp (F i).eval o).run P W = .ok (.value (vals i)) W) ∧ F (i + 1) = (F i).put o.dst (vals i) := by
 induction l with
 | nil => intro A h; exact ⟨fun _ => undef, fun _ => A, rfl, h, fun i o h => by simp at h⟩
 | cons o l ih =>
  intro A h
  obtain ⟨v, hs, hf⟩ := h
  obtain ⟨vals, F, h0, hfin, hstep⟩ := ih _ hf
  refine ⟨fun i => match i with | 0 => v | i + 1 => vals i, fun i => match i with | 0 => A | i + 1 => F i, rfl, hfin, ?_⟩
  intro i o' hi
  cases i with
  | zero => simp at hi; subst hi; exact ⟨hs, h0⟩
  | succ i => exact hstep i o' (by simpa using hi)
theorem FrameIs.vals {a a' : Act} {v v' : Nat → Value} {D : Nat → Prop} (h : FrameIs a ops v D a') (e : ∀ j, D j → v j = v' j) : FrameIs a ops v' D a' :=
 ⟨h.defers, h.size, fun j o t hj ho hd hl => by rw [← e j hj]; exact h.on j o t hj ho hd hl, h.off⟩
theorem FrameIs.same {a a' : Act} {v : Nat → Value} {D E : Nat → Prop} (h : FrameIs a ops v D a') (e : ∀ j, D j ↔ E j) : FrameIs a ops v E a' := by
 have : D = E := funext fun j => propext (e j)
 rw [← this]; exact h
def E2 (W : World) (T : TypeId) (b : Nat) (x y : Int) : Prop := W.heap[b]? = some (.cells #[.int .i64 x, .int .i64 y] T)
theorem E2.cells {W : World} {T : TypeId} {b : Nat} {x y : Int} (h : E2 W T b x y) : W.cell? ⟨b, 0, none⟩ = some (.int .i64 x) ∧ W.cell? ⟨b, 1, none⟩ = some (.int .i64 y) ∧ W.frozen? ⟨b, 0, none⟩ = false ∧ W.frozen? ⟨b, 1, none⟩ = false := by
 unfold E2 at h
 simp [World.cell?, World.frozen?, h]
theorem E2.lt {W : World} {T : TypeId} {b : Nat} {x y : Int} (h : E2 W T b x y) : b < W.heap.size := (Array.getElem?_eq_some_iff.1 h).1
theorem E2.alloc {W : World} {T : TypeId} {b : Nat} {x y : Int} (h : E2 W T b x y) (o : Obj) : E2 (W.alloc o) T b x y := by
 have := h.lt
 unfold E2 at *
 rw [← h]
 show (W.heap.push o)[b]? = _
 rw [Array.getElem?_push, if_neg (by omega)]
theorem E2.other {W : World} {T : TypeId} {b b' : Nat} {x y : Int} (h : E2 W T b x y) (hb : b ≠ b') (i : Nat) (u : Value) : E2 (W.setCell ⟨b', i, none⟩ u) T b x y := (Below.heap_setCell W _ u b hb).trans h
theorem E2.set {W : World} {T : TypeId} {b : Nat} {x y : Int} (h : E2 W T b x y) (x' y' : Int) : E2 ((W.setCell ⟨b, 0, none⟩ (.int .i64 x')).setCell ⟨b, 1, none⟩ (.int .i64 y')) T b x' y' := by
 unfold E2 at *
 simp [World.setCell, Array.getElem?_modify, h]
theorem E2.new (W : World) (T : TypeId) (x y : Int) : E2 (W.alloc (.cells #[.int .i64 x, .int .i64 y] T)) T W.heap.size x y := by
 show (W.heap.push _)[W.heap.size]? = _
 rw [Array.getElem?_push_size]
def ptr (b : Nat) : Value := .pointer (some ⟨b, 0, none⟩)
theorem wp_region_two {Q : Exit → Act → World → Prop} {rid : Nat} {a : Act} {w w0 : World} (k d1 d2 x1 x2 : Nat) (T : TypeId) (u1 u2 u3 u4 : Int) (hm : P.follows .mixedOrders = true) (hf : flowB ops (k + 4) = true) (hsz : ops.size = k + 4) (hs0 : Since w0 w)
  (s1 : ∃ ty pos af, ops[k]? = some ⟨some d1, .alloc T, ty, pos, af, none⟩) (s2 : ∃ ty pos af, ops[k + 1]? = some ⟨some d2, .alloc T, ty, pos, af, none⟩)
  (s3 : ∃ ty pos af, ops[k + 2]? = some ⟨none, .store T (.tmp d1) (.tmp x1), ty, pos, af, none⟩) (s4 : ∃ ty pos af, ops[k + 3]? = some ⟨none, .store T (.tmp d2) (.tmp x2), ty, pos, af, none⟩)
  (hxd : x1 ≠ d1 ∧ x1 ≠ d2 ∧ x2 ≠ d1 ∧ x2 ≠ d2) (hd1 : d1 < a.tmps.size) (hd2 : d2 < a.tmps.size)
  (hz : ∀ (ev : Operand → Value) (d : Option Tmp) (ty : TypeId) (pos : String) (af : Array Edge) (W : World), (execOp ev ⟨d, .alloc T, ty, pos, af, none⟩).run P W = .ok (.value (ptr W.heap.size)) (W.alloc (.cells #[.int .i64 0, .int .i64 0] T)))
  (hst : ∀ (ev : Operand → Value) (ty : TypeId) (pos : String) (af : Array Edge) (W : World) (p x : Operand) (b : Nat) (q1 q2 : Value) (y1 y2 : Int), ev p = ptr b → ev x = .agg #[.int .i64 y1, .int .i64 y2] → W.cell? ⟨b, 0, none⟩ = some q1 → W.cell? ⟨b, 1, none⟩ = some q2 → W.frozen? ⟨b, 0, none⟩ = false → W.frozen? ⟨b, 1, none⟩ = false →
   (execOp ev ⟨none, .store T p x, ty, pos, af, none⟩).run P W = .ok .skip ((W.setCell ⟨b, 0, none⟩ (.int .i64 y1)).setCell ⟨b, 1, none⟩ (.int .i64 y2)))
  (h : PFlow P ops w0 (fun A => A.eval (.tmp x1) = .agg #[.int .i64 u1, .int .i64 u2] ∧ A.eval (.tmp x2) = .agg #[.int .i64 u3, .int .i64 u4] ∧
   ∀ b1 b2 W, Since w0 W → E2 W T b1 u1 u2 → E2 W T b2 u3 u4 → Q .normal ((A.put (some d1) (ptr b1)).put (some d2) (ptr b2)) W) (ops.toList.take k) a) : (Code.region rid ops true).wp P Q a w := by
 have hok := flow_ok hf
 obtain ⟨vals, F, h0, ⟨hx1, hx2, hfin⟩, hst'⟩ := pflow_frames _ a h
 have hlen : (ops.toList.take k).length = k := by simp; omega
 rw [hlen] at hx1 hx2 hfin
 have hget : ∀ i o, i < k → ops[i]? = some o → (ops.toList.take k)[i]? = some o := fun i o hi ho => by
  rw [List.getElem?_take, if_pos hi]; simpa using ho
 obtain ⟨ty1, ps1, af1, s1⟩ := s1
 obtain ⟨ty2, ps2, af2, s2⟩ := s2
 obtain ⟨ty3, ps3, af3, s3⟩ := s3
 obtain ⟨ty4, ps4, af4, s4⟩ := s4
 have hF0 : ∀ i, i ≤ k → FrameIs a ops vals (fun j => j < i) (F i) := by
  intro i
  induction i with
  | zero => intro _; rw [h0]; exact ⟨rfl, rfl, fun j _ _ hj => absurd hj (by omega), fun _ _ => rfl⟩
  | succ i ih =>
   intro hi
   have hi' : i < ops.size := by omega
   have ho : ops[i]? = some ops[i] := Array.getElem?_eq_getElem hi'
   rw [(hst' i _ (hget i _ (by omega) ho)).2]
   have := (ih (by omega)).put ho (fun j oj d hj hoj hd hd2 => by
    have := hok.dsts i _ (by omega) ho j oj (by omega) hoj d hd hd2
    omega)
   exact ⟨this.defers, this.size, fun j oj t hj => this.on j oj t (by omega), fun t ht => this.off t (fun j oj hj => ht j oj (by omega))⟩
 let V : Nat → Nat → Nat → Value := fun b1 b2 j => if j = k then ptr b1 else if j = k + 1 then ptr b2 else vals j
 have hF : ∀ b1 b2 i, i ≤ k → FrameIs a ops (V b1 b2) (fun j => j < i) (F i) := fun b1 b2 i hi => (hF0 i hi).vals (fun j hj => by show vals j = if j = k then _ else if j = k + 1 then _ else vals j; rw [if_neg (by omega), if_neg (by omega)])
 refine wp_region_inv hm hok.back (fun D a' W => Since w0 W ∧ ∃ b1 b2, FrameIs a ops (V b1 b2) D a' ∧ (D k → w0.heap.size ≤ b1 ∧ (D (k + 2) → E2 W T b1 u1 u2) ∧ (¬ D (k + 2) → E2 W T b1 0 0)) ∧ (D (k + 1) → w0.heap.size ≤ b2 ∧ (D (k + 3) → E2 W T b2 u3 u4) ∧ (¬ D (k + 3) → E2 W T b2 0 0)) ∧ (D k → D (k + 1) → b1 ≠ b2)) ?_ ?_ ?_
 ·exact ⟨since_drew hs0, 0, 0, ⟨rfl, rfl, fun j _ _ hj => hj.elim, fun _ _ => rfl⟩, fun h => h.elim, fun h => h.elim, fun h => h.elim⟩
 ·rintro D a' W i o ⟨hW, b1, b2, hfr, hB1, hB2, hne⟩ ho hDi hdep hcl
  have hin : i < k + 4 := by have := (Array.getElem?_eq_some_iff.1 ho).1; omega
  have look : ∀ t ∈ o.looksAt ops, ∀ j oj, ops[j]? = some oj → oj.dst = some t → D j ∧ j < i := fun t ht j oj hoj hd => by
   have hjn : j < k + 4 := by have := (Array.getElem?_eq_some_iff.1 hoj).1; omega
   have := hok.looks i o hin ho t ht j oj hjn hoj hd
   exact ⟨hdep j this, hok.back i o ho j this⟩
  have dist : ∀ j oj d, D j → ops[j]? = some oj → o.dst = some d → oj.dst ≠ some d := fun j oj d hj hoj hd hd2 => by
   have hjn : j < k + 4 := by have := (Array.getElem?_eq_some_iff.1 hoj).1; omega
   have := hok.dsts i o hin ho j oj hjn hoj d hd hd2
   subst this
   exact hDi hj
  rcases Nat.lt_or_ge i k with hik | hik
  ·obtain ⟨⟨hw, hrun⟩, -⟩ := hst' i o (hget i o hik ho)
   have hag : ∀ t ∈ o.looksAt ops, a'.tmps[t]? = (F i).tmps[t]? := fun t ht => hfr.agree (hF b1 b2 i (by omega)) t (fun j oj hj hoj hd => look t ht j oj hoj hd)
   have he : execOp a'.eval o = execOp (F i).eval o := execOp_congr o (fun cs b => hok.nosel i o cs b ho) (fun x hx => by
    cases x with
    | tmp t =>
     have := hag t (List.mem_append_left _ (List.mem_filterMap.2 ⟨.tmp t, by simpa using hx, rfl⟩))
     simp [Act.eval, this]
    | _ => rfl)
   have hw' : Region.wanted o (yielded ops a'.tmps) = true := by
    rw [← hw]
    unfold Region.wanted
    cases hg : o.guard with
    | none => rfl
    | some gw =>
     obtain ⟨g, want⟩ := gw
     have : yielded ops a'.tmps g = yielded ops (F i).tmps g := by
      unfold yielded
      cases ht : (ops[g]?).bind (·.dst) with
      | none => rfl
      | some t =>
       have := hag t (by simp [Oper.looksAt, hg, ht])
       simp [this]
     simp only [this]
   rw [if_pos hw']
   unfold Oper.wp
   rw [he, hrun W hW]
   refine ⟨hW, b1, b2, ?_, fun h => ?_, fun h => ?_, fun h h' => hne (h.elim (fun h => h) fun e => by omega) (h'.elim (fun h => h) fun e => by omega)⟩
   ·have := hfr.put (i := i) ho dist
    rwa [show V b1 b2 i = vals i by show (if i = k then _ else if i = k + 1 then _ else vals i) = _; rw [if_neg (by omega), if_neg (by omega)]] at this
   ·obtain ⟨q1, q2, q3⟩ := hB1 (h.elim (fun h => h) fun e => by omega)
    exact ⟨q1, fun h => q2 (h.elim (fun h => h) fun e => by omega), fun h => q3 fun hh => h (.inl hh)⟩
   ·obtain ⟨q1, q2, q3⟩ := hB2 (h.elim (fun h => h) fun e => by omega)
    exact ⟨q1, fun h => q2 (h.elim (fun h => h) fun e => by omega), fun h => q3 fun hh => h (.inl hh)⟩
  ·obtain rfl | rfl | rfl | rfl : i = k ∨ i = k + 1 ∨ i = k + 2 ∨ i = k + 3 := by omega
   ·rw [s1] at ho; cases ho
    rw [if_pos (show Region.wanted (⟨some d1, .alloc T, ty1, ps1, af1, none⟩ : Oper) (yielded ops a'.tmps) = true from rfl)]
    unfold Oper.wp
    rw [hz]
    have hn2 : ¬ D (i + 2) := fun h => hDi (hcl _ _ h s3 _ (hok.looks (i + 2) _ (by omega) s3 d1 (by simp [Oper.looksAt, Op.operands]) i _ (by omega) s1 rfl))
    refine ⟨since_alloc _ hW, W.heap.size, b2, ?_, fun _ => ⟨hW.size, fun h => (hn2 (h.elim (fun h => h) fun e => by omega)).elim, fun _ => E2.new W T 0 0⟩, fun h => ?_, fun _ h e => ?_⟩
    ·have := (hfr.vals (v' := V W.heap.size b2) (fun j hj => by show (if j = i then _ else if j = i + 1 then _ else vals j) = if j = i then _ else if j = i + 1 then _ else vals j; rw [if_neg (c := j = i) (fun e => hDi (by rw [← e]; exact hj)), if_neg (c := j = i) (fun e => hDi (by rw [← e]; exact hj))])).put (i := i) s1 dist
     rwa [show V W.heap.size b2 i = ptr W.heap.size by show (if i = i then _ else _) = _; rw [if_pos rfl]] at this
    ·obtain ⟨q1, q2, q3⟩ := hB2 (h.elim (fun h => h) fun e => by omega)
     exact ⟨q1, fun h => (q2 (h.elim (fun h => h) fun e => by omega)).alloc _, fun h => (q3 fun hh => h (.inl hh)).alloc _⟩
    ·obtain ⟨q1, q2, q3⟩ := hB2 (h.elim (fun h => h) fun e => by omega)
     by_cases h3 : D (i + 3)
     ·have := (q2 h3).lt; omega
     ·have := (q3 h3).lt; omega
   ·rw [s2] at ho; cases ho
    rw [if_pos (show Region.wanted (⟨some d2, .alloc T, ty2, ps2, af2, none⟩ : Oper) (yielded ops a'.tmps) = true from rfl)]
    unfold Oper.wp
    rw [hz]
    have hn3 : ¬ D (k + 3) := fun h => hDi (hcl _ _ h s4 _ (hok.looks (k + 3) _ (by omega) s4 d2 (by simp [Oper.looksAt, Op.operands]) (k + 1) _ (by omega) s2 rfl))
    refine ⟨since_alloc _ hW, b1, W.heap.size, ?_, fun h => ?_, fun _ => ⟨hW.size, fun h => (hn3 (h.elim (fun h => h) fun e => by omega)).elim, fun _ => E2.new W T 0 0⟩, fun h _ e => ?_⟩
    ·have := (hfr.vals (v' := V b1 W.heap.size) (fun j hj => by show (if j = k then _ else if j = k + 1 then _ else vals j) = if j = k then _ else if j = k + 1 then _ else vals j; rw [if_neg (c := j = k + 1) (fun e => hDi (by rw [← e]; exact hj)), if_neg (c := j = k + 1) (fun e => hDi (by rw [← e]; exact hj))])).put (i := k + 1) s2 dist
     rwa [show V b1 W.heap.size (k + 1) = ptr W.heap.size by show (if k + 1 = k then _ else if k + 1 = k + 1 then _ else _) = _; rw [if_neg (by omega), if_pos rfl]] at this
    ·obtain ⟨q1, q2, q3⟩ := hB1 (h.elim (fun h => h) fun e => by omega)
     exact ⟨q1, fun h => (q2 (h.elim (fun h => h) fun e => by omega)).alloc _, fun h => (q3 fun hh => h (.inl hh)).alloc _⟩
    ·obtain ⟨q1, q2, q3⟩ := hB1 (h.elim (fun h => h) fun e => by omega)
     by_cases h3 : D (k + 2)
     ·have := (q2 h3).lt; omega
     ·have := (q3 h3).lt; omega
   ·rw [s3] at ho; cases ho
    rw [if_pos (show Region.wanted (⟨none, .store T (.tmp d1) (.tmp x1), ty3, ps3, af3, none⟩ : Oper) (yielded ops a'.tmps) = true from rfl)]
    have hDk : D k := hdep k (hok.looks (k + 2) _ (by omega) s3 d1 (by simp [Oper.looksAt, Op.operands]) k _ (by omega) s1 rfl)
    obtain ⟨q1, q2, q3⟩ := hB1 hDk
    have q := q3 hDi
    obtain ⟨c1, c2, c3, c4⟩ := q.cells
    have e1 : a'.eval (.tmp d1) = ptr b1 := by
     have := hfr.on k _ d1 hDk s1 rfl hd1
     simp only [Act.eval, Array.getD_eq_getD_getElem?, this, Option.getD_some]
     show (if k = k then ptr b1 else _) = _
     rw [if_pos rfl]
    have e2 : a'.eval (.tmp x1) = .agg #[.int .i64 u1, .int .i64 u2] := by
     rw [← hx1]
     have := hfr.agree (hF b1 b2 k (Nat.le_refl _)) x1 (fun j oj hj hoj hd => ⟨(look x1 (by simp [Oper.looksAt, Op.operands]) j oj hoj hd).1, by
      have hj' := (look x1 (by simp [Oper.looksAt, Op.operands]) j oj hoj hd).2
      have hj3 : j < k + 2 := hj'
      rcases Nat.lt_or_ge j k with hh | hh
      ·exact hh
      ·exfalso
       obtain rfl | rfl : j = k ∨ j = k + 1 := by omega
       ·rw [s1] at hoj; cases hoj
        exact hxd.1 (Option.some.inj hd).symm
       ·rw [s2] at hoj; cases hoj
        exact hxd.2.1 (Option.some.inj hd).symm⟩)
     simp [Act.eval, this]
    unfold Oper.wp
    rw [hst a'.eval _ _ _ W _ _ b1 _ _ u1 u2 e1 e2 c1 c2 c3 c4]
    refine ⟨Below.setCell (Below.setCell hW q1 _) q1 _, b1, b2, ?_, fun _ => ⟨q1, fun _ => q.set u1 u2, fun h => (h (.inr rfl)).elim⟩, fun h => ?_, fun _ h => hne hDk (h.elim (fun h => h) fun e => by omega)⟩
    ·exact hfr.put (i := k + 2) s3 dist
    ·obtain ⟨p1, p2, p3⟩ := hB2 (h.elim (fun h => h) fun e => by omega)
     have hb := hne hDk (h.elim (fun h => h) fun e => by omega)
     exact ⟨p1, fun h => ((p2 (h.elim (fun h => h) fun e => by omega)).other (Ne.symm hb) _ _).other (Ne.symm hb) _ _, fun h => ((p3 fun hh => h (.inl hh)).other (Ne.symm hb) _ _).other (Ne.symm hb) _ _⟩
   ·rw [s4] at ho; cases ho
    rw [if_pos (show Region.wanted (⟨none, .store T (.tmp d2) (.tmp x2), ty4, ps4, af4, none⟩ : Oper) (yielded ops a'.tmps) = true from rfl)]
    have hDk : D (k + 1) := hdep (k + 1) (hok.looks (k + 3) _ (by omega) s4 d2 (by simp [Oper.looksAt, Op.operands]) (k + 1) _ (by omega) s2 rfl)
    obtain ⟨q1, q2, q3⟩ := hB2 hDk
    have q := q3 hDi
    obtain ⟨c1, c2, c3, c4⟩ := q.cells
    have e1 : a'.eval (.tmp d2) = ptr b2 := by
     have := hfr.on (k + 1) _ d2 hDk s2 rfl hd2
     simp only [Act.eval, Array.getD_eq_getD_getElem?, this, Option.getD_some]
     show (if k + 1 = k then _ else if k + 1 = k + 1 then ptr b2 else _) = _
     rw [if_neg (by omega), if_pos rfl]
    have e2 : a'.eval (.tmp x2) = .agg #[.int .i64 u3, .int .i64 u4] := by
     rw [← hx2]
     have := hfr.agree (hF b1 b2 k (Nat.le_refl _)) x2 (fun j oj hj hoj hd => ⟨(look x2 (by simp [Oper.looksAt, Op.operands]) j oj hoj hd).1, by
      have hj' := (look x2 (by simp [Oper.looksAt, Op.operands]) j oj hoj hd).2
      have hj3 : j < k + 3 := hj'
      rcases Nat.lt_or_ge j k with hh | hh
      ·exact hh
      ·exfalso
       obtain rfl | rfl | rfl : j = k ∨ j = k + 1 ∨ j = k + 2 := by omega
       ·rw [s1] at hoj; cases hoj
        exact hxd.2.2.1 (Option.some.inj hd).symm
       ·rw [s2] at hoj; cases hoj
        exact hxd.2.2.2 (Option.some.inj hd).symm
       ·rw [s3] at hoj; cases hoj; cases hd⟩)
     simp [Act.eval, this]
    unfold Oper.wp
    rw [hst a'.eval _ _ _ W _ _ b2 _ _ u3 u4 e1 e2 c1 c2 c3 c4]
    refine ⟨Below.setCell (Below.setCell hW q1 _) q1 _, b1, b2, ?_, fun h => ?_, fun _ => ⟨q1, fun _ => q.set u3 u4, fun h => (h (.inr rfl)).elim⟩, fun h _ => hne (h.elim (fun h => h) fun e => by omega) hDk⟩
    ·exact hfr.put (i := k + 3) s4 dist
    ·obtain ⟨p1, p2, p3⟩ := hB1 (h.elim (fun h => h) fun e => by omega)
     have hb := hne (h.elim (fun h => h) fun e => by omega) hDk
     exact ⟨p1, fun h => ((p2 (h.elim (fun h => h) fun e => by omega)).other hb _ _).other hb _ _, fun h => ((p3 fun hh => h (.inl hh)).other hb _ _).other hb _ _⟩
 ·rintro D a' W ⟨hW, b1, b2, hfr, hB1, hB2, hne⟩ hall
  have dst1 : ∀ i o, i < k + 4 → ops[i]? = some o → ∀ j oj d, j < i → ops[j]? = some oj → o.dst = some d → oj.dst ≠ some d := fun i o hi ho j oj d hj hoj hd hd2 => by
   have := hok.dsts i o hi ho j oj (by omega) hoj d hd hd2
   omega
  have f1 := ((hF b1 b2 k (Nat.le_refl _)).put (i := k) s1 (fun j oj d hj hoj => dst1 k _ (by omega) s1 j oj d hj hoj)).same (E := fun j => j < k + 1) (fun j => by show (j < k ∨ j = k) ↔ j < k + 1; omega)
  have f2 := (f1.put (i := k + 1) s2 (fun j oj d hj hoj => dst1 (k + 1) _ (by omega) s2 j oj d hj hoj)).same (E := fun j => j < k + 2) (fun j => by show (j < k + 1 ∨ j = k + 1) ↔ j < k + 2; omega)
  have f3 := (f2.put (i := k + 2) s3 (fun j oj d hj hoj => dst1 (k + 2) _ (by omega) s3 j oj d hj hoj)).same (E := fun j => j < k + 3) (fun j => by show (j < k + 2 ∨ j = k + 2) ↔ j < k + 3; omega)
  have f4 := (f3.put (i := k + 3) s4 (fun j oj d hj hoj => dst1 (k + 3) _ (by omega) s4 j oj d hj hoj)).same (E := fun j => j < k + 4) (fun j => by show (j < k + 3 ∨ j = k + 3) ↔ j < k + 4; omega)
  have e := hfr.ext f4 (fun j hj => ⟨fun _ => by omega, fun _ => hall j hj⟩)
  rw [e]
  have v1 : V b1 b2 k = ptr b1 := by show (if k = k then _ else _) = _; rw [if_pos rfl]
  have v2 : V b1 b2 (k + 1) = ptr b2 := by show (if k + 1 = k then _ else if k + 1 = k + 1 then _ else _) = _; rw [if_neg (by omega), if_pos rfl]
  rw [v1, v2]
  exact hfin b1 b2 W hW ((hB1 (hall k (by omega))).2.1 (hall (k + 2) (by omega))) ((hB2 (hall (k + 1) (by omega))).2.1 (hall (k + 3) (by omega)))
end
end Go.Proofs.YtgmdpppljkmabaaGreat
namespace Go.Proofs.YtgmdpppljkmabaaGreat
open Go Go.RowKit
/-! A region that draws its order, with one call whose value is not known beforehand. -/
section
variable {P : Program} {ops : Array Oper}
def GivesAny (P : Program) (R : World → Value → Prop) (o : Oper) (A : Act) (W : World) : Prop :=
 match (execOp A.eval o).run P W with
 | .ok (.value u) W' => R W' u ∧ Since W W'
 | .ok (.enter f args) W' => Calls P f args W' fun e W'' => ∃ u, e = .returned u ∧ R W'' u ∧ Since W W''
 | _ => False
theorem agree_exec {o : Oper} {a' A : Act} (hag : ∀ t ∈ o.looksAt ops, a'.tmps[t]? = A.tmps[t]?) (hns : ∀ cs b, o.op ≠ .select cs b) : execOp a'.eval o = execOp A.eval o ∧ Region.wanted o (yielded ops a'.tmps) = Region.wanted o (yielded ops A.tmps) := by
 refine ⟨execOp_congr o hns (fun x hx => ?_), ?_⟩
 ·cases x with
  | tmp t =>
   have := hag t (List.mem_append_left _ (List.mem_filterMap.2 ⟨.tmp t, by simpa using hx, rfl⟩))
   simp [Act.eval, this]
  | _ => rfl
 ·unfold Region.wanted
  cases hg : o.guard with
  | none => rfl
  | some gw =>
   obtain ⟨g, want⟩ := gw
   have : yielded ops a'.tmps g = yielded ops A.tmps g := by
    unfold yielded
    cases ht : (ops[g]?).bind (·.dst) with
    | none => rfl
    | some t =>
     have := hag t (by simp [Oper.looksAt, hg, ht])
     simp [this]
   simp only [this]
theorem FrameIs.vals2 {a a' : Act} {v v' : Nat → Value} {D : Nat → Prop} (h : FrameIs a ops v D a') (e : ∀ j, j < ops.size → D j → v j = v' j) : FrameIs a ops v' D a' :=
 ⟨h.defers, h.size, fun j o t hj ho hd hl => by rw [← e j (Array.getElem?_eq_some_iff.1 ho).1 hj]; exact h.on j o t hj ho hd hl, h.off⟩
end
end Go.Proofs.YtgmdpppljkmabaaGreat
