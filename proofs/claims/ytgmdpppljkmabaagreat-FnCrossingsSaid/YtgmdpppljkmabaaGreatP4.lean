/- Parts of the proof: walks of functions and plain laws. -/
import Derived.Test.YtgmdpppljkmabaaGreatP0
import Derived.Test.YtgmdpppljkmabaaGreatP2
namespace Go.Proofs.YtgmdpppljkmabaaGreat
open Go Go.RowKit
/-! A region that draws its order: reads in any order, a chain of operations whose values are not known ahead (calls that make memory), and a tail that has one order. -/
section
variable {P : Program} {ops : Array Oper}
theorem inv_main2 {Q : Exit → Act → World → Prop} (hback : ∀ i o, ops[i]? = some o → ∀ j ∈ depsOf o, j < i) (J : (Nat → Prop) → Act → World → Prop)
  (hstep : ∀ (D : Nat → Prop) a w i o, J D a w → ops[i]? = some o → ¬ D i → (∀ d ∈ depsOf o, D d) → (∀ i o, D i → ops[i]? = some o → ∀ d ∈ depsOf o, D d) →
   if Region.wanted o (yielded ops a.tmps) = true then Oper.wp P o a w (J (fun j => D j ∨ j = i)) Q ∨ (o.asks P a w ∧ LetsOut Q) else J (fun j => D j ∨ j = i) (a.put o.dst undef) w)
  (hend : ∀ (D : Nat → Prop) a w, J D a w → (∀ i, i < ops.size → D i) → Q .normal a w) :
  ∀ (fuel : Nat) (listed : Array Bool) (a : Act) (W : World), listed.size = ops.size → (∀ i o, listed.getD i false = true → ops[i]? = some o → ∀ j ∈ depsOf o, listed.getD j false = true) →
   ((List.range ops.size).filter fun j => !listed.getD j false).length ≤ fuel → J (fun j => listed.getD j false = true) a W → wpAny P .any ops Q fuel listed a W := by
 have least : ∀ (listed : Array Bool), listed.size = ops.size → Region.ready .any ops listed = [] → ∀ m, ∀ j, j ≤ m → j < ops.size → listed.getD j false = true := by
  intro listed hsz hnil m
  induction m using Nat.strongRecOn with
  | ind m ihm =>
   intro j hjm hjs
   refine Classical.byContradiction fun hjn => ?_
   have hjn : listed.getD j false = false := by cases hb : listed.getD j false <;> simp_all
   have hmem : j ∈ Region.ready .any ops listed := mem_ready'.2 ⟨by rw [unlisted (by omega)]; exact hjn, ops[j], Array.getElem?_eq_getElem hjs, fun d hd => by
    have hdj := hback j _ (Array.getElem?_eq_getElem hjs) d hd
    exact ihm d (by omega) d (Nat.le_refl _) (by omega)⟩
   rw [hnil] at hmem
   simp at hmem
 intro fuel
 induction fuel with
 | zero =>
  intro listed a W hsz hcl hfl hJ
  have hall : ∀ j, j < ops.size → listed.getD j false = true := fun j hj => by
   rcases hb : listed.getD j false with _ | _
   ·have : 0 < ((List.range ops.size).filter fun j => !listed.getD j false).length := List.length_pos_of_mem (List.mem_filter.2 ⟨List.mem_range.2 hj, by simp [hb]⟩)
    omega
   ·rfl
  refine ⟨List.eq_nil_iff_forall_not_mem.2 fun i hi => ?_, hend _ a W hJ hall⟩
  obtain ⟨h0, o, ho, _⟩ := mem_ready'.1 hi
  have hin : i < ops.size := (Array.getElem?_eq_some_iff.1 ho).1
  rw [unlisted (by omega), hall i hin] at h0
  cases h0
 | succ fuel ih =>
  intro listed a W hsz hcl hfl hJ
  refine ⟨fun hnil => hend _ a W hJ fun j hj => least listed hsz hnil j j (Nat.le_refl _) hj, fun i hi => ?_⟩
  obtain ⟨h0, o, ho, hdep⟩ := mem_ready'.1 hi
  have hin : i < ops.size := (Array.getElem?_eq_some_iff.1 ho).1
  rw [unlisted (by omega)] at h0
  have hset : ∀ j, (listed.setIfInBounds i true).getD j false = true ↔ (listed.getD j false = true ∨ j = i) := fun j => by
   by_cases hji : i = j
   ·subst hji; simp [hsz, hin]
   ·rw [getD_set_ne false hji]
    constructor
    ·exact .inl
    ·rintro (h | h)
     ·exact h
     ·exact absurd h.symm hji
  have hD : (fun j => (listed.setIfInBounds i true).getD j false = true) = fun j => listed.getD j false = true ∨ j = i := funext fun j => propext (hset j)
  have next : ∀ a W, J (fun j => listed.getD j false = true ∨ j = i) a W → wpAny P .any ops Q fuel (listed.setIfInBounds i true) a W := fun a W hJ' => by
   refine ih _ a W (by simpa using hsz) (fun i' o' hi' ho' j hj => ?_) ?_ (by rw [hD]; exact hJ')
   ·rcases (hset i').1 hi' with h | rfl
    ·exact (hset j).2 (.inl (hcl i' o' h ho' j hj))
    ·rw [ho] at ho'; cases ho'
     exact (hset j).2 (.inl (hdep j hj))
   ·have hlt' := filter_lt (l := List.range ops.size) (p := fun j => !listed.getD j false) (q := fun j => !(listed.setIfInBounds i true).getD j false) (fun x hx => by
     cases hb : listed.getD x false
     ·rfl
     ·have := (hset x).2 (.inl hb)
      simp only [this] at hx
      cases hx) (List.mem_range.2 hin) (by simp only [h0]; rfl) (by simp only [(hset i).2 (.inr rfl)]; rfl)
    omega
  have := hstep (fun j => listed.getD j false = true) a W i o hJ ho (by rw [h0]; simp) hdep hcl
  unfold wpOp
  simp only [ho]
  split
  ·rename_i hw
   rw [if_pos hw] at this
   exact this.imp (Oper.wp_mono next) id
  ·rename_i hw
   rw [if_neg hw] at this
   exact next _ _ this
theorem wp_region_inv2 {Q : Exit → Act → World → Prop} {id : Nat} {a : Act} {w : World} (hm : P.follows .mixedOrders = true) (hback : ∀ i o, ops[i]? = some o → ∀ j ∈ depsOf o, j < i) (J : (Nat → Prop) → Act → World → Prop)
  (h0 : J (fun _ => False) a w.drew)
  (hstep : ∀ (D : Nat → Prop) a w i o, J D a w → ops[i]? = some o → ¬ D i → (∀ d ∈ depsOf o, D d) → (∀ i o, D i → ops[i]? = some o → ∀ d ∈ depsOf o, D d) →
   if Region.wanted o (yielded ops a.tmps) = true then Oper.wp P o a w (J (fun j => D j ∨ j = i)) Q ∨ (o.asks P a w ∧ LetsOut Q) else J (fun j => D j ∨ j = i) (a.put o.dst undef) w)
  (hend : ∀ (D : Nat → Prop) a w, J D a w → (∀ i, i < ops.size → D i) → Q .normal a w) : (Code.region id ops true).wp P Q a w := by
 refine wp_region_any hm ?_
 refine inv_main2 (P := P) (Q := Q) hback J hstep hend ops.size (Array.replicate ops.size false) a w.drew (by simp) (fun i o hi => by rw [rep_false] at hi; cases hi) ?_ ?_
 ·have := List.length_filter_le (fun j => !(Array.replicate ops.size false).getD j false) (List.range ops.size)
  simpa using this
 ·have : (fun j => (Array.replicate ops.size false).getD j false = true) = fun _ => False := funext fun j => propext ⟨(fun h => by rw [rep_false] at h; cases h), fun h => h.elim⟩
  rw [this]
  exact h0
def selT {α : Type} : List Bool → List α → List α
 | true :: m, o :: l => o :: selT m l
 | false :: m, _ :: l => selT m l
 | [], _ => []
 | _ :: _, [] => []
def selF {α : Type} : List Bool → List α → List α
 | true :: m, _ :: l => selF m l
 | false :: m, o :: l => o :: selF m l
 | [], _ => []
 | _ :: _, [] => []
def rk (b : Bool) (m : List Bool) (i : Nat) : Nat := (m.take i).count b
theorem selT_rk {α : Type} : ∀ (m : List Bool) (l : List α) (i : Nat), m.length = l.length → m[i]? = some true → (selT m l)[rk true m i]? = l[i]?
 | [], _, i, _, h => by simp at h
 | true :: m, o :: l, 0, _, _ => by simp [rk, selT]
 | true :: m, o :: l, i + 1, hl, h => by
  have := selT_rk m l i (by simpa using hl) (by simpa using h)
  simpa [rk, selT] using this
 | false :: m, o :: l, 0, _, h => by simp at h
 | false :: m, o :: l, i + 1, hl, h => by
  have := selT_rk m l i (by simpa using hl) (by simpa using h)
  simpa [rk, selT] using this
theorem selF_rk {α : Type} : ∀ (m : List Bool) (l : List α) (i : Nat), m.length = l.length → m[i]? = some false → (selF m l)[rk false m i]? = l[i]?
 | [], _, i, _, h => by simp at h
 | false :: m, o :: l, 0, _, _ => by simp [rk, selF]
 | false :: m, o :: l, i + 1, hl, h => by
  have := selF_rk m l i (by simpa using hl) (by simpa using h)
  simpa [rk, selF] using this
 | true :: m, o :: l, 0, _, h => by simp at h
 | true :: m, o :: l, i + 1, hl, h => by
  have := selF_rk m l i (by simpa using hl) (by simpa using h)
  simpa [rk, selF] using this
theorem selT_len {α : Type} : ∀ (m : List Bool) (l : List α), m.length = l.length → (selT m l).length = m.count true
 | [], [], _ => rfl
 | true :: m, o :: l, hl => by simp [selT, selT_len m l (by simpa using hl)]
 | false :: m, o :: l, hl => by simp [selT, selT_len m l (by simpa using hl)]
theorem selF_len {α : Type} : ∀ (m : List Bool) (l : List α), m.length = l.length → (selF m l).length = m.count false
 | [], [], _ => rfl
 | true :: m, o :: l, hl => by simp [selF, selF_len m l (by simpa using hl)]
 | false :: m, o :: l, hl => by simp [selF, selF_len m l (by simpa using hl)]
theorem rk_succ {b : Bool} {m : List Bool} {i : Nat} {x : Bool} (h : m[i]? = some x) : rk b m (i + 1) = rk b m i + if x = b then 1 else 0 := by
 obtain ⟨hi, rfl⟩ := List.getElem?_eq_some_iff.1 h
 unfold rk
 rw [List.take_succ_eq_append_getElem hi, List.count_append]
 congr 1
 simp [List.count_cons]
theorem rk_le {b : Bool} {m : List Bool} {i j : Nat} (h : i ≤ j) : rk b m i ≤ rk b m j := by
 unfold rk
 exact List.Sublist.count_le _ (List.IsPrefix.sublist (List.take_prefix_take_left h))
theorem rk_lt {b : Bool} {m : List Bool} {i j : Nat} (h : i < j) (hi : m[i]? = some b) : rk b m i < rk b m j := by
 have h1 := rk_succ (b := b) hi
 rw [if_pos rfl] at h1
 have := rk_le (b := b) (m := m) (show i + 1 ≤ j from h)
 omega
theorem rk_inj {b : Bool} {m : List Bool} {i j : Nat} (hi : m[i]? = some b) (hj : m[j]? = some b) (h : rk b m i = rk b m j) : i = j := by
 rcases Nat.lt_trichotomy i j with hl | hl | hl
 ·have := rk_lt hl hi; omega
 ·exact hl
 ·have := rk_lt hl hj; omega
theorem rk_lt_count {b : Bool} {m : List Bool} {i : Nat} (hi : m[i]? = some b) : rk b m i < m.count b := by
 have h1 := rk_lt (Nat.lt_of_lt_of_le (List.getElem?_eq_some_iff.1 hi).1 (Nat.le_refl m.length)) hi
 unfold rk at h1 ⊢
 rw [List.take_length] at h1
 exact h1
theorem rk_has {b : Bool} : ∀ (m : List Bool) (q : Nat), q < m.count b → ∃ i : Nat, m[i]? = some b ∧ rk b m i = q
 | [], q, h => by simp at h
 | x :: m, q, h => by
  by_cases hx : x = b
  ·subst hx
   cases q with
   | zero => exact ⟨0, by simp, by simp [rk]⟩
   | succ q =>
    obtain ⟨i, h1, h2⟩ := rk_has m q (by simpa using h)
    exact ⟨i + 1, by simpa using h1, by have : rk x (x :: m) (i + 1) = rk x m i + 1 := by simp [rk]
                                        omega⟩
  ·obtain ⟨i, h1, h2⟩ := rk_has m q (by rwa [List.count_cons_of_ne hx] at h)
   exact ⟨i + 1, by simpa using h1, by have : rk b (x :: m) (i + 1) = rk b m i := by simp [rk, List.count_cons_of_ne hx]
                                       omega⟩
def TFlow (P : Program) (ops : Array Oper) (S : World → Prop) (fin : Act → World → Prop) : List Oper → Act → World → Prop
 | [], A, W => fin A W
 | o :: rest, A, W =>
  (Region.wanted o (yielded ops A.tmps) = true ∧ match (execOp A.eval o).run P W with
   | .ok (.value u) W' => S W' ∧ TFlow P ops S fin rest (A.put o.dst u) W'
   | .ok .skip W' => S W' ∧ TFlow P ops S fin rest (A.put o.dst undef) W'
   | .ok (.row row args) W' => Rows P row args W' fun v W'' => S W'' ∧ TFlow P ops S fin rest (A.put o.dst v) W''
   | .ok (.enter f args) W' => Calls P f args W' fun e W'' => ∃ u, e = .returned u ∧ S W'' ∧ TFlow P ops S fin rest (A.put o.dst u) W''
   | _ => False) ∨ (Region.wanted o (yielded ops A.tmps) = false ∧ TFlow P ops S fin rest (A.put o.dst undef) W)
theorem tflow_val {S : World → Prop} {fin : Act → World → Prop} {o : Oper} {rest : List Oper} {A : Act} {W : World} {v : Value} (hw : Region.wanted o (yielded ops A.tmps) = true) (h : (execOp A.eval o).run P W = .ok (.value v) W) (hS : S W)
  (hr : TFlow P ops S fin rest (A.put o.dst v) W) : TFlow P ops S fin (o :: rest) A W := .inl ⟨hw, by rw [h]; exact ⟨hS, hr⟩⟩
theorem tflow_new {S : World → Prop} {fin : Act → World → Prop} {o : Oper} {rest : List Oper} {A : Act} {W W' : World} {v : Value} (hw : Region.wanted o (yielded ops A.tmps) = true) (h : (execOp A.eval o).run P W = .ok (.value v) W') (hS : S W')
  (hr : TFlow P ops S fin rest (A.put o.dst v) W') : TFlow P ops S fin (o :: rest) A W := .inl ⟨hw, by rw [h]; exact ⟨hS, hr⟩⟩
theorem tflow_of_wp {S : World → Prop} {fin : Act → World → Prop} {o : Oper} {rest : List Oper} {A : Act} {W : World}
  (h : ∀ Q' : Exit → Act → World → Prop, (∀ u W', S W' → TFlow P ops S fin rest (A.put o.dst u) W' → Q' .normal (A.put o.dst u) W') → wpList P ops Q' [o] A W) : TFlow P ops S fin (o :: rest) A W := by
 have h1 := h (fun x a w => x = .normal ∧ a.defers = A.defers ∧ S w ∧ TFlow P ops S fin rest a w) (fun u W' hS ht => ⟨rfl, by cases o.dst <;> rfl, hS, ht⟩)
 unfold wpList at h1
 unfold TFlow
 split at h1
 ·rename_i hw
  refine .inl ⟨hw, ?_⟩
  rcases h1 with h1 | ⟨-, a', w', h1, -⟩
  ·unfold Oper.wp at h1
   generalize (execOp A.eval o).run P W = r at h1 ⊢
   cases r with
   | ok nx W' =>
    cases nx with
    | value u => exact h1.2.2
    | skip => exact h1.2.2
    | row row args => exact Rows.mono h1 fun u W'' h => h.2.2
    | enter f args =>
     simp only [Oper.upon] at h1
     refine Calls.mono h1 fun e W'' h2 => ?_
     cases e with
     | returned v => exact ⟨v, rfl, h2.2.2⟩
     | panicked c => exact absurd h2.1 (by simp)
     | outgrown => obtain ⟨a', w', h3, -⟩ := h2; cases h3
    | defer d =>
     have := h1.2.1
     simp only [Act.put] at this
     have hl := congrArg List.length this
     cases hd : o.dst <;> simp [hd] at hl
    | _ => exact h1.elim
   | halt x W' => cases x <;> first | exact absurd h1.1 (by simp) | exact h1.elim
  ·cases h1
 ·rename_i hw
  exact .inr ⟨by simpa using hw, h1.2.2.2⟩
def chainB (ops : Array Oper) (k : Nat) (mask : List Bool) : Bool :=
 flowB ops k && decide (mask.length = k) && decide (k ≤ ops.size) &&
 (List.range k).all fun i => match ops[i]? with
  | none => true
  | some o => if mask.getD i true then (List.range i).all fun j => !mask.getD j true || ((closTbl ops (i + 1)).getD i []).contains j
   else (depsOf o).all fun j => !mask.getD j true
theorem wp_region_chain0 {Q : Exit → Act → World → Prop} {rid : Nat} {a : Act} {w w0 : World} (k : Nat) (mask : List Bool) (hm : P.follows .mixedOrders = true) (hc : chainB ops k mask = true) (hs0 : Since w0 w)
  (h : PFlow P ops w0 (fun A => TFlow P ops (Since w0) (fun A W => wpList P ops Q (ops.toList.drop k) A W) (selT mask (ops.toList.take k)) A w.drew) (selF mask (ops.toList.take k)) a) : (Code.region rid ops true).wp P Q a w := by
 unfold chainB at hc
 simp only [Bool.and_eq_true, decide_eq_true_eq] at hc
 obtain ⟨⟨⟨hf, hml⟩, hkn⟩, hch⟩ := hc
 have hok := flow_ok hf
 have hlt : mask.length = (ops.toList.take k).length := by simp; omega
 have hmk : ∀ i, i < k → ∃ b, mask[i]? = some b := fun i hi => ⟨_, List.getElem?_eq_getElem (by omega)⟩
 have hget : ∀ i o, i < k → ops[i]? = some o → (ops.toList.take k)[i]? = some o := fun i o hi ho => by
  rw [List.getElem?_take, if_pos hi]; simpa using ho
 have hmd : ∀ i b, mask[i]? = some b → mask.getD i true = b := fun i b hb => by rw [List.getD_eq_getElem?_getD, hb]; rfl
 have hml' : ∀ i b, mask[i]? = some b → i < k := fun i b hb => by have := (List.getElem?_eq_some_iff.1 hb).1; omega
 have chT : ∀ i j, mask[i]? = some true → mask[j]? = some true → j < i → Anc ops j i := fun i j hi hj hji => by
  have hik := hml' i _ hi
  have ho : ops[i]? = some ops[i] := Array.getElem?_eq_getElem (by omega)
  have := List.all_eq_true.1 hch i (List.mem_range.2 hik)
  simp only [ho] at this
  rw [if_pos (hmd i _ hi)] at this
  have := List.all_eq_true.1 this j (List.mem_range.2 hji)
  rw [hmd j _ hj, Bool.not_true, Bool.false_or] at this
  exact closTbl_sound (i + 1) i j (by simpa using this)
 have chF : ∀ i o j, mask[i]? = some false → ops[i]? = some o → j ∈ depsOf o → mask[j]? = some false := fun i o j hi ho hj => by
  have hik := hml' i _ hi
  have hji := hok.back i o ho j hj
  have := List.all_eq_true.1 hch i (List.mem_range.2 hik)
  simp only [ho] at this
  rw [if_neg (by rw [hmd i _ hi]; simp)] at this
  have := List.all_eq_true.1 this j hj
  obtain ⟨b, hb⟩ := hmk j (by omega)
  rw [hmd j _ hb] at this
  cases b <;> simp_all
 obtain ⟨vals, F, h0, hfin, hst⟩ := pflow_frames _ a h
 have hpure : ∀ r, r ≤ mask.count false → FrameIs a ops (fun j => vals (rk false mask j)) (fun j => mask[j]? = some false ∧ rk false mask j < r) (F r) := by
  intro r
  induction r with
  | zero => intro _; rw [h0]; exact ⟨rfl, rfl, fun j _ _ hj => by have := hj.2; omega, fun _ _ => rfl⟩
  | succ r ih =>
   intro hr
   obtain ⟨i, hi1, hi2⟩ := rk_has (b := false) mask r (by omega)
   have hik := hml' i _ hi1
   have ho : ops[i]? = some ops[i] := Array.getElem?_eq_getElem (by omega)
   have hsel := selF_rk mask _ i hlt hi1
   rw [hget i _ hik ho, hi2] at hsel
   rw [(hst r _ hsel).2]
   have := ((ih (by omega)).put ho (fun j oj d hj hoj hd hd2 => by
    have := hok.dsts i _ hik ho j oj (hml' j _ hj.1) hoj d hd hd2
    subst this
    have := hj.2
    omega)).same (E := fun j => mask[j]? = some false ∧ rk false mask j < r + 1) (fun j => by
     constructor
     ·rintro (⟨a1, a2⟩ | rfl)
      ·exact ⟨a1, by omega⟩
      ·exact ⟨hi1, by omega⟩
     ·rintro ⟨a1, a2⟩
      by_cases e : rk false mask j = r
      ·exact .inr (rk_inj a1 hi1 (by omega))
      ·exact .inl ⟨a1, by omega⟩)
   rw [show vals r = vals (rk false mask i) by rw [hi2]]
   exact this
 have hnF : (selF mask (ops.toList.take k)).length = mask.count false := selF_len _ _ hlt
 rw [hnF] at hfin
 let SP : Nat → Prop := fun j => mask[j]? = some false
 let J : (Nat → Prop) → Act → World → Prop := fun D a' W =>
  (Since w0 W ∧ (∀ j, D j → j < k) ∧ ∃ (V : Nat → Value) (q : Nat) (A : Act), (∀ j, mask[j]? = some false → V j = vals (rk false mask j)) ∧ (∀ j, mask[j]? = some true → (D j ↔ rk true mask j < q)) ∧
   FrameIs a ops V D a' ∧ FrameIs a ops V (fun j => mask[j]? = some false ∨ (mask[j]? = some true ∧ rk true mask j < q)) A ∧
   TFlow P ops (Since w0) (fun A W => wpList P ops Q (ops.toList.drop k) A W) ((selT mask (ops.toList.take k)).drop q) A W) ∨
  (∃ m, k ≤ m ∧ m ≤ ops.size ∧ (∀ j, j < ops.size → (D j ↔ j < m)) ∧ wpList P ops Q (ops.toList.drop m) a' W)
 have htl : (selT mask (ops.toList.take k)).length = mask.count true := selT_len _ _ hlt
 have full : ∀ D a' W, J D a' W → (∀ j, j < k → D j) → ∃ m, k ≤ m ∧ m ≤ ops.size ∧ (∀ j, j < ops.size → (D j ↔ j < m)) ∧ wpList P ops Q (ops.toList.drop m) a' W := by
  intro D a' W hJ hD
  rcases hJ with ⟨hW, hDk, V, q, A, hV, hT, hfr, hfA, htf⟩ | hJ
  ·have hq : mask.count true ≤ q := by
    by_cases e : mask.count true ≤ q
    ·exact e
    ·obtain ⟨i, hi1, hi2⟩ := rk_has (b := true) mask q (by omega)
     have := (hT i hi1).1 (hD i (hml' i _ hi1))
     omega
   have enil : (selT mask (ops.toList.take k)).drop q = [] := List.drop_eq_nil_of_le (by omega)
   rw [enil] at htf
   have : a' = A := hfr.ext hfA (fun j hj => by
    constructor
    ·intro hj'
     obtain ⟨b, hb⟩ := hmk j (hDk j hj')
     cases b
     ·exact .inl hb
     ·exact .inr ⟨hb, (hT j hb).1 hj'⟩
    ·rintro (hb | ⟨hb, _⟩) <;> exact hD j (hml' j _ hb))
   subst this
   exact ⟨k, Nat.le_refl _, hkn, fun j _ => ⟨fun h => hDk j h, fun h => hD j h⟩, htf⟩
  ·exact hJ
 refine wp_region_inv2 hm hok.back J (.inl ⟨since_drew hs0, fun j hj => hj.elim, fun j => vals (rk false mask j), 0, F (mask.count false), fun j _ => rfl, fun j _ => ⟨fun h => h.elim, fun h => by omega⟩, ⟨rfl, rfl, fun j _ _ hj => hj.elim, fun _ _ => rfl⟩, ?_, ?_⟩) ?_ ?_
 ·exact (hpure _ (Nat.le_refl _)).same (fun j => by
   constructor
   ·rintro ⟨a1, -⟩; exact .inl a1
   ·rintro (a1 | ⟨-, a2⟩)
    ·exact ⟨a1, rk_lt_count a1⟩
    ·omega)
 ·rw [List.drop_zero]; exact hfin
 ·intro D a' W i o hJ ho hDi hdep hcl
  have hin : i < ops.size := (Array.getElem?_eq_some_iff.1 ho).1
  by_cases hik : i < k
  ·-- one of the first k
   rcases hJ with ⟨hW, hDk, V, q, A, hV, hT, hfr, hfA, htf⟩ | ⟨m, h1, h2, h3, -⟩
   rotate_left
   ·exact absurd ((h3 i hin).2 (by omega)) hDi
   have look : ∀ t ∈ o.looksAt ops, ∀ j oj, j < k → ops[j]? = some oj → oj.dst = some t → D j ∧ j ∈ depsOf o := fun t ht j oj hjk hoj hd => by
    have := hok.looks i o hik ho t ht j oj hjk hoj hd
    exact ⟨hdep j this, this⟩
   have dist : ∀ j oj d, D j → ops[j]? = some oj → o.dst = some d → oj.dst ≠ some d := fun j oj d hj hoj hd hd2 => by
    have := hok.dsts i o hik ho j oj (hDk j hj) hoj d hd hd2
    subst this
    exact hDi hj
   obtain ⟨b, hb⟩ := hmk i hik
   cases b with
   | false =>
    have hsel := selF_rk mask _ i hlt hb
    rw [hget i _ hik ho] at hsel
    obtain ⟨⟨hw, hrun⟩, -⟩ := hst _ _ hsel
    have hr := rk_lt_count hb
    obtain ⟨he, hw'⟩ := agree_exec (ops := ops) (a' := a') (A := F (rk false mask i)) (fun t ht => (hfr.vals2 (v' := V) (fun _ _ _ => rfl)).agree ((hpure _ (Nat.le_of_lt hr)).vals (v' := V) (fun j hj => (hV j hj.1).symm)) t (fun j oj hj hoj hd => by
     have hjk : j < k := hj.elim (fun h => hDk j h) (fun h => hml' j _ h.1)
     obtain ⟨d1, d2⟩ := look t ht j oj hjk hoj hd
     have hjf := chF i o j hb ho d2
     exact ⟨d1, hjf, rk_lt (hok.back i o ho j d2) hjf⟩)) (fun cs b => hok.nosel i o cs b ho)
    rw [if_pos (hw'.trans hw)]
    refine .inl ?_
    unfold Oper.wp
    rw [he, hrun W hW]
    refine .inl ⟨hW, fun j hj => hj.elim (fun h => hDk j h) (fun h => by omega), V, q, A, hV, fun j hj => ?_, ?_, hfA, htf⟩
    ·rw [← hT j hj]
     constructor
     ·rintro (h | rfl)
      ·exact h
      ·rw [hb] at hj; cases hj
     ·exact .inl
    ·have := hfr.put (i := i) ho dist
     rwa [hV i hb] at this
   | true =>
    have hq : rk true mask i = q := by
     have h1 : ¬ rk true mask i < q := fun h => hDi ((hT i hb).2 h)
     by_cases e : rk true mask i = q
     ·exact e
     ·obtain ⟨j, hj1, hj2⟩ := rk_has (b := true) mask q (by have := rk_lt_count hb; omega)
      have hji : j < i := by
       rcases Nat.lt_trichotomy j i with h | h | h
       ·exact h
       ·subst h; omega
       ·have := rk_lt h hb; omega
      have := anc_ready hcl ho hdep (chT i j hb hj1 hji)
      have := (hT j hj1).1 this
      omega
    have hsel := selT_rk mask _ i hlt hb
    rw [hget i _ hik ho, hq] at hsel
    have hqn : q < (selT mask (ops.toList.take k)).length := (List.getElem?_eq_some_iff.1 hsel).1
    rw [List.drop_eq_getElem_cons hqn, (List.getElem?_eq_some_iff.1 hsel).2] at htf
    obtain ⟨he, hw'⟩ := agree_exec (ops := ops) (a' := a') (A := A) (fun t ht => hfr.agree hfA t (fun j oj hj hoj hd => by
     have hjk : j < k := hj.elim (fun h => hDk j h) (fun h => h.elim (hml' j _) (fun h => hml' j _ h.1))
     obtain ⟨d1, d2⟩ := look t ht j oj hjk hoj hd
     refine ⟨d1, ?_⟩
     obtain ⟨b, hb'⟩ := hmk j hjk
     cases b
     ·exact .inl hb'
     ·exact .inr ⟨hb', (hT j hb').1 d1⟩)) (fun cs b => hok.nosel i o cs b ho)
    have next : ∀ u W', Since w0 W' → TFlow P ops (Since w0) (fun A W => wpList P ops Q (ops.toList.drop k) A W) ((selT mask (ops.toList.take k)).drop (q + 1)) (A.put o.dst u) W' → J (fun j => D j ∨ j = i) (a'.put o.dst u) W' := by
     intro u W' hS ht
     let V' : Nat → Value := fun j => if j = i then u else V j
     have e1 : ∀ j, j ≠ i → V' j = V j := fun j hj => if_neg hj
     have e2 : V' i = u := if_pos rfl
     refine .inl ⟨hS, fun j hj => hj.elim (fun h => hDk j h) (fun h => by omega), V', q + 1, A.put o.dst u, fun j hj => ?_, fun j hj => ?_, ?_, ?_, ht⟩
     ·rw [e1 j (fun e => by subst e; rw [hb] at hj; cases hj)]; exact hV j hj
     ·constructor
      ·rintro (h | rfl)
       ·have := (hT j hj).1 h; omega
       ·omega
      ·intro h
       by_cases e : rk true mask j = q
       ·exact .inr (rk_inj hj hb (by omega))
       ·exact .inl ((hT j hj).2 (by omega))
     ·have := (hfr.vals2 (v' := V') (fun j _ hj => (e1 j (fun e => by subst e; exact hDi hj)).symm)).put (i := i) ho dist
      rwa [e2] at this
     ·have := ((hfA.vals2 (v' := V') (fun j _ hj => (e1 j (fun e => by
       subst e
       rcases hj with hj | ⟨-, hj⟩
       ·rw [hb] at hj; cases hj
       ·omega)).symm)).put (i := i) ho (fun j oj d hj hoj hd hd2 => by
        have hjk : j < k := hj.elim (hml' j _) (fun h => hml' j _ h.1)
        have := hok.dsts i o hik ho j oj hjk hoj d hd hd2
        subst this
        rcases hj with hj | ⟨-, hj⟩
        ·rw [hb] at hj; cases hj
        ·omega)).same (E := fun j => mask[j]? = some false ∨ (mask[j]? = some true ∧ rk true mask j < q + 1)) (fun j => by
        constructor
        ·rintro ((h | ⟨h, h'⟩) | rfl)
         ·exact .inl h
         ·exact .inr ⟨h, by omega⟩
         ·exact .inr ⟨hb, by omega⟩
        ·rintro (h | ⟨h, h'⟩)
         ·exact .inl (.inl h)
         ·by_cases e : rk true mask j = q
          ·exact .inr (rk_inj h hb (by omega))
          ·exact .inl (.inr ⟨h, by omega⟩))
      rwa [e2] at this
    rcases htf with ⟨hw, hrun⟩ | ⟨hw, hrun⟩
    ·rw [if_pos (hw'.trans hw)]
     refine .inl ?_
     unfold Oper.wp
     rw [he]
     generalize (execOp A.eval o).run P W = r at hrun ⊢
     cases r with
     | ok nx W' =>
      cases nx with
      | value u => exact next u W' hrun.1 hrun.2
      | skip => exact next undef W' hrun.1 hrun.2
      | row row args => exact Rows.mono hrun fun u W'' h => next u W'' h.1 h.2
      | enter f args =>
       simp only [Oper.upon]
       exact Calls.mono hrun fun e W'' ⟨u, he', h3, h4⟩ => by subst he'; exact next u W'' h3 h4
      | _ => exact hrun.elim
     | halt x W' => exact hrun.elim
    ·rw [if_neg (by rw [hw'.trans hw]; simp)]
     exact next _ _ hW hrun
  ·-- the tail
   have hall : ∀ j, j < i → D j := fun j hj => anc_ready hcl ho hdep (hok.tail i (by omega) hin j hj)
   obtain ⟨m, h1, h2, h3, h4⟩ := full D a' W hJ (fun j hj => hall j (by omega))
   have hmi : m = i := by
    by_cases e1 : i < m
    ·exact absurd ((h3 i hin).2 e1) hDi
    ·by_cases e2 : m < i
     ·have := (h3 m (by omega)).1 (hall m e2); omega
     ·omega
   subst hmi
   have hdr : ops.toList.drop m = o :: ops.toList.drop (m + 1) := by
    have : m < ops.toList.length := by simpa using hin
    rw [List.drop_eq_getElem_cons this]
    congr 1
    have := (Array.getElem?_eq_some_iff.1 ho).2
    simpa using this
   rw [hdr] at h4
   unfold wpList at h4
   have next : ∀ a W, wpList P ops Q (ops.toList.drop (m + 1)) a W → J (fun j => D j ∨ j = m) a W := fun a W h => .inr ⟨m + 1, by omega, by omega, fun j hj => by
    constructor
    ·rintro (h | rfl)
     ·have := (h3 j hj).1 h; omega
     ·omega
    ·intro h
     by_cases e : j = m
     ·exact .inr e
     ·exact .inl ((h3 j hj).2 (by omega)), h⟩
   split
   ·rename_i hw
    rw [if_pos hw] at h4
    exact h4.imp (Oper.wp_mono next) id
   ·rename_i hw
    rw [if_neg hw] at h4
    exact next _ _ h4
 ·intro D a' W hJ hall
  obtain ⟨m, h1, h2, h3, h4⟩ := full D a' W hJ (fun j hj => hall j (by omega))
  have hmn : m = ops.size := by
   by_cases e : m < ops.size
   ·have := (h3 m e).1 (hall m e); omega
   ·omega
  subst hmn
  rw [List.drop_eq_nil_of_le (by simp)] at h4
  exact h4
end
end Go.Proofs.YtgmdpppljkmabaaGreat
namespace Go.Proofs.YtgmdpppljkmabaaGreat
open Go Go.RowKit
/-! A region that draws its order, with classes: 0 reads; 1 a chain of calls that make memory; 2 single operations that make memory, free of the chain; 3 a chain behind all of 1 and 2. -/
section
variable {P : Program} {ops : Array Oper}
def selN {α : Type} (c : Nat) : List Nat → List α → List α
 | x :: m, o :: l => if x = c then o :: selN c m l else selN c m l
 | [], _ => []
 | _ :: _, [] => []
def rkN (b : Nat) (m : List Nat) (i : Nat) : Nat := (m.take i).count b
theorem selN_rk {α : Type} (c : Nat) : ∀ (m : List Nat) (l : List α) (i : Nat), m.length = l.length → m[i]? = some c → (selN c m l)[rkN c m i]? = l[i]?
 | [], _, i, _, h => by simp at h
 | x :: m, o :: l, 0, _, h => by simp at h; subst h; simp [rkN, selN]
 | x :: m, o :: l, i + 1, hl, h => by
  have := selN_rk c m l i (by simpa using hl) (by simpa using h)
  unfold selN
  split
  ·rename_i e; subst e; simpa [rkN] using this
  ·rename_i e; simpa [rkN, List.count_cons_of_ne e] using this
theorem selN_len {α : Type} (c : Nat) : ∀ (m : List Nat) (l : List α), m.length = l.length → (selN c m l).length = m.count c
 | [], [], _ => rfl
 | x :: m, o :: l, hl => by
  have := selN_len c m l (by simpa using hl)
  unfold selN
  split
  ·rename_i e; subst e; simp [this]
  ·rename_i e; simp [List.count_cons_of_ne e, this]
theorem rkN_succ {b : Nat} {m : List Nat} {i : Nat} {x : Nat} (h : m[i]? = some x) : rkN b m (i + 1) = rkN b m i + if x = b then 1 else 0 := by
 obtain ⟨hi, rfl⟩ := List.getElem?_eq_some_iff.1 h
 unfold rkN
 rw [List.take_succ_eq_append_getElem hi, List.count_append]
 congr 1
 simp [List.count_cons]
theorem rkN_le {b : Nat} {m : List Nat} {i j : Nat} (h : i ≤ j) : rkN b m i ≤ rkN b m j := by
 unfold rkN
 exact List.Sublist.count_le _ (List.IsPrefix.sublist (List.take_prefix_take_left h))
theorem rkN_lt {b : Nat} {m : List Nat} {i j : Nat} (h : i < j) (hi : m[i]? = some b) : rkN b m i < rkN b m j := by
 have h1 := rkN_succ (b := b) hi
 rw [if_pos rfl] at h1
 have := rkN_le (b := b) (m := m) (show i + 1 ≤ j from h)
 omega
theorem rkN_inj {b : Nat} {m : List Nat} {i j : Nat} (hi : m[i]? = some b) (hj : m[j]? = some b) (h : rkN b m i = rkN b m j) : i = j := by
 rcases Nat.lt_trichotomy i j with hl | hl | hl
 ·have := rkN_lt hl hi; omega
 ·exact hl
 ·have := rkN_lt hl hj; omega
theorem rkN_lt_count {b : Nat} {m : List Nat} {i : Nat} (hi : m[i]? = some b) : rkN b m i < m.count b := by
 have h1 := rkN_lt (Nat.lt_of_lt_of_le (List.getElem?_eq_some_iff.1 hi).1 (Nat.le_refl m.length)) hi
 unfold rkN at h1 ⊢
 rw [List.take_length] at h1
 exact h1
theorem rkN_has {b : Nat} : ∀ (m : List Nat) (q : Nat), q < m.count b → ∃ i : Nat, m[i]? = some b ∧ rkN b m i = q
 | [], q, h => by simp at h
 | x :: m, q, h => by
  by_cases hx : x = b
  ·subst hx
   cases q with
   | zero => exact ⟨0, by simp, by simp [rkN]⟩
   | succ q =>
    obtain ⟨i, h1, h2⟩ := rkN_has m q (by simpa using h)
    exact ⟨i + 1, by simpa using h1, by have : rkN x (x :: m) (i + 1) = rkN x m i + 1 := by simp [rkN]
                                        omega⟩
  ·obtain ⟨i, h1, h2⟩ := rkN_has m q (by rwa [List.count_cons_of_ne hx] at h)
   exact ⟨i + 1, by simpa using h1, by have : rkN b (x :: m) (i + 1) = rkN b m i := by simp [rkN, List.count_cons_of_ne hx]
                                       omega⟩
def NFlow (P : Program) (ops : Array Oper) (fin : Act → World → Prop) : List Oper → Act → World → Prop
 | [], A, W => fin A W
 | o :: rest, A, W => ∀ W1, Since W W1 →
  (Region.wanted o (yielded ops A.tmps) = true ∧ match (execOp A.eval o).run P W1 with
   | .ok (.value u) W2 => Since W1 W2 ∧ NFlow P ops fin rest (A.put o.dst u) W2
   | .ok (.enter f args) W2 => Calls P f args W2 fun e W3 => ∃ u, e = .returned u ∧ Since W1 W3 ∧ NFlow P ops fin rest (A.put o.dst u) W3
   | _ => False)
theorem NFlow.since {fin : Act → World → Prop} (hfin : ∀ A W W', fin A W → Since W W' → fin A W') : ∀ (l : List Oper) (A : Act) (W W' : World), NFlow P ops fin l A W → Since W W' → NFlow P ops fin l A W'
 | [], A, W, W', h, hs => hfin A W W' h hs
 | _ :: _, _, _, _, h, hs => fun W1 h1 => h W1 (hs.after h1)
def putAll (ops : Array Oper) : List Nat → (Nat → Value) → Act → Act
 | [], _, A => A
 | j :: r, us, A => putAll ops r us (match ops[j]? with | none => A | some o => A.put o.dst (us j))
def idxN (c : Nat) (mask : List Nat) : List Nat := (List.range mask.length).filter fun i => mask.getD i 99 == c
def forkB (ops : Array Oper) (k : Nat) (mask : List Nat) : Bool :=
 flowB ops k && decide (mask.length = k) && decide (k ≤ ops.size) && (mask.all fun x => decide (x ≤ 3)) &&
 (List.range k).all fun i => match ops[i]? with
  | none => true
  | some o =>
   let c := mask.getD i 99
   let up := (closTbl ops (i + 1)).getD i []
   if c = 0 then (depsOf o).all fun j => mask.getD j 99 == 0
   else if c = 1 then ((depsOf o).all fun j => mask.getD j 99 == 0 || mask.getD j 99 == 1) && (List.range i).all fun j => !(mask.getD j 99 == 1) || up.contains j
   else if c = 2 then (depsOf o).all fun j => mask.getD j 99 == 0
   else ((List.range k).all fun j => !(mask.getD j 99 == 1 || mask.getD j 99 == 2) || up.contains j) && (List.range i).all fun j => !(mask.getD j 99 == 3) || up.contains j
def FreeOk (P : Program) (ops : Array Oper) (w0 : World) (R : Nat → World → Value → Prop) (A : Act) (j : Nat) : Prop :=
 ∀ o, ops[j]? = some o → Region.wanted o (yielded ops A.tmps) = true ∧ ∀ W, Since w0 W → GivesAny P (R j) o A W
theorem frame_putAll {a : Act} {k : Nat} (hd : ∀ i o, i < k → ops[i]? = some o → ∀ j oj, j < k → ops[j]? = some oj → ∀ d, o.dst = some d → oj.dst = some d → j = i) (hk : k ≤ ops.size) (V : Nat → Value) : ∀ (l : List Nat) (D : Nat → Prop) (A : Act), (∀ j, D j → j < k) → (∀ j ∈ l, j < k ∧ ¬ D j) → l.Nodup → FrameIs a ops V D A → FrameIs a ops V (fun j => D j ∨ j ∈ l) (putAll ops l V A)
 | [], D, A, _, _, _, h => h.same (fun j => by simp)
 | j :: r, D, A, hD, hl, hn, h => by
  have hj := hl j (by simp)
  have hjn : j < ops.size := by omega
  have ho : ops[j]? = some ops[j] := Array.getElem?_eq_getElem hjn
  have h1 := h.put ho (fun j' oj d hj' hoj hd1 hd2 => by
   have := hd j _ hj.1 ho j' oj (hD j' hj') hoj d hd1 hd2
   subst this
   exact hj.2 hj')
  have hn' := List.nodup_cons.1 hn
  have := frame_putAll hd hk V r (fun x => D x ∨ x = j) _ (fun x hx => hx.elim (hD x) (fun e => by omega)) (fun x hx => ⟨(hl x (List.mem_cons_of_mem _ hx)).1, fun e => e.elim (hl x (List.mem_cons_of_mem _ hx)).2 (fun e => by subst e; exact hn'.1 hx)⟩) hn'.2 h1
  unfold putAll
  rw [ho]
  exact this.same (fun x => by simp [or_assoc])
theorem wp_region_fork {Q : Exit → Act → World → Prop} {rid : Nat} {a : Act} {w w0 : World} (k : Nat) (mask : List Nat) (R : Nat → World → Value → Prop) (hR : ∀ j W W' u, R j W u → Since W W' → R j W' u) (hm : P.follows .mixedOrders = true) (hc : forkB ops k mask = true) (hs0 : Since w0 w)
  (h : PFlow P ops w0 (fun A => (∀ j ∈ idxN 2 mask, FreeOk P ops w0 R A j) ∧ ∀ W, Since w0 W → NFlow P ops (fun A W => ∀ (us : Nat → Value) W1, Since W W1 → (∀ j ∈ idxN 2 mask, R j W1 (us j)) → TFlow P ops (Since w0) (fun A W => wpList P ops Q (ops.toList.drop k) A W) (selN 3 mask (ops.toList.take k)) (putAll ops (idxN 2 mask) us A) W1) (selN 1 mask (ops.toList.take k)) A W) (selN 0 mask (ops.toList.take k)) a) : (Code.region rid ops true).wp P Q a w := by
 unfold forkB at hc
 simp only [Bool.and_eq_true, decide_eq_true_eq] at hc
 obtain ⟨⟨⟨⟨hf, hml⟩, hkn⟩, hm3⟩, hch⟩ := hc
 have hok := flow_ok hf
 have hlt : mask.length = (ops.toList.take k).length := by simp; omega
 have hmk : ∀ i, i < k → ∃ b, mask[i]? = some b ∧ b ≤ 3 := fun i hi => ⟨_, List.getElem?_eq_getElem (by omega), by simpa using List.all_eq_true.1 hm3 _ (List.getElem_mem (by omega))⟩
 have hget : ∀ i o, i < k → ops[i]? = some o → (ops.toList.take k)[i]? = some o := fun i o hi ho => by
  rw [List.getElem?_take, if_pos hi]; simpa using ho
 have hmd : ∀ i b, mask[i]? = some b → mask.getD i 99 = b := fun i b hb => by rw [List.getD_eq_getElem?_getD, hb]; rfl
 have hml' : ∀ i b, mask[i]? = some b → i < k := fun i b hb => by have := (List.getElem?_eq_some_iff.1 hb).1; omega
 have hmi : ∀ j c, j ∈ idxN c mask ↔ mask[j]? = some c ∧ c ≠ 99 ∨ (c = 99 ∧ j ∈ idxN c mask) := fun j c => by
  by_cases hc99 : c = 99
  ·simp [hc99]
  ·simp only [hc99, ne_eq, not_false_eq_true, and_true, false_and, or_false]
   unfold idxN
   rw [List.mem_filter, List.mem_range]
   constructor
   ·rintro ⟨h1, h2⟩
    rw [List.getD_eq_getElem?_getD, List.getElem?_eq_getElem h1] at h2
    rw [List.getElem?_eq_getElem h1]
    simpa using h2
   ·intro h1
    exact ⟨(List.getElem?_eq_some_iff.1 h1).1, by rw [hmd j c h1]; simp⟩
 have hi2 : ∀ j, j ∈ idxN 2 mask ↔ mask[j]? = some 2 := fun j => by rw [hmi j 2]; simp
 have row : ∀ i o, i < k → ops[i]? = some o → _ := fun i o hi ho => by
  have := List.all_eq_true.1 hch i (List.mem_range.2 hi)
  simp only [ho] at this
  exact this
 have md0 : ∀ i j o c, i < k → ops[i]? = some o → j ∈ depsOf o → (mask.getD j 99 == c) = true → mask[j]? = some c := fun i j o c hi ho hj hd => by
  have hjk : j < k := by have := hok.back i o ho j hj; omega
  obtain ⟨b, hb, -⟩ := hmk j hjk
  rw [hmd j b hb] at hd
  rw [hb]; simpa using hd
 have c0 : ∀ i o j, mask[i]? = some 0 → ops[i]? = some o → j ∈ depsOf o → mask[j]? = some 0 := fun i o j hi ho hj => by
  have hik := hml' i _ hi
  have := row i o hik ho
  simp only [hmd i _ hi, if_true] at this
  exact md0 i j o 0 hik ho hj (List.all_eq_true.1 this j hj)
 have c1 : ∀ i o j, mask[i]? = some 1 → ops[i]? = some o → j ∈ depsOf o → mask[j]? = some 0 ∨ mask[j]? = some 1 := fun i o j hi ho hj => by
  have hik := hml' i _ hi
  have := row i o hik ho
  simp only [hmd i _ hi, Nat.one_ne_zero, if_false, if_true, Bool.and_eq_true] at this
  have h1 := List.all_eq_true.1 this.1 j hj
  rw [Bool.or_eq_true] at h1
  exact h1.imp (md0 i j o 0 hik ho hj) (md0 i j o 1 hik ho hj)
 have c2 : ∀ i o j, mask[i]? = some 2 → ops[i]? = some o → j ∈ depsOf o → mask[j]? = some 0 := fun i o j hi ho hj => by
  have hik := hml' i _ hi
  have := row i o hik ho
  simp only [hmd i _ hi, show ¬ (2 : Nat) = 0 by decide, show ¬ (2 : Nat) = 1 by decide, if_false, if_true] at this
  exact md0 i j o 0 hik ho hj (List.all_eq_true.1 this j hj)
 have ch1 : ∀ i j, mask[i]? = some 1 → mask[j]? = some 1 → j < i → Anc ops j i := fun i j hi hj hji => by
  have hik := hml' i _ hi
  have := row i _ hik (Array.getElem?_eq_getElem (by omega))
  simp only [hmd i _ hi, Nat.one_ne_zero, if_false, if_true, Bool.and_eq_true] at this
  have := List.all_eq_true.1 this.2 j (List.mem_range.2 hji)
  rw [hmd j _ hj] at this
  exact closTbl_sound (i + 1) i j (by simpa using this)
 have ch3 : ∀ i j, mask[i]? = some 3 → (mask[j]? = some 1 ∨ mask[j]? = some 2 ∨ (mask[j]? = some 3 ∧ j < i)) → Anc ops j i := fun i j hi hj => by
  have hik := hml' i _ hi
  have := row i _ hik (Array.getElem?_eq_getElem (by omega))
  simp only [hmd i _ hi, show ¬ (3 : Nat) = 0 by decide, show ¬ (3 : Nat) = 1 by decide, show ¬ (3 : Nat) = 2 by decide, if_false, Bool.and_eq_true] at this
  rcases hj with hj | hj | ⟨hj, hji⟩
  ·have := List.all_eq_true.1 this.1 j (List.mem_range.2 (hml' j _ hj))
   rw [hmd j _ hj] at this
   exact closTbl_sound (i + 1) i j (by simpa using this)
  ·have := List.all_eq_true.1 this.1 j (List.mem_range.2 (hml' j _ hj))
   rw [hmd j _ hj] at this
   exact closTbl_sound (i + 1) i j (by simpa using this)
  ·have := List.all_eq_true.1 this.2 j (List.mem_range.2 hji)
   rw [hmd j _ hj] at this
   exact closTbl_sound (i + 1) i j (by simpa using this)
 obtain ⟨vals, F, h0, ⟨hfree, hfin⟩, hst⟩ := pflow_frames _ a h
 have hpure : ∀ r, r ≤ mask.count 0 → FrameIs a ops (fun j => vals (rkN 0 mask j)) (fun j => mask[j]? = some 0 ∧ rkN 0 mask j < r) (F r) := by
  intro r
  induction r with
  | zero => intro _; rw [h0]; exact ⟨rfl, rfl, fun j _ _ hj => by have := hj.2; omega, fun _ _ => rfl⟩
  | succ r ih =>
   intro hr
   obtain ⟨i, hi1, hi2⟩ := rkN_has (b := 0) mask r (by omega)
   have hik := hml' i _ hi1
   have ho : ops[i]? = some ops[i] := Array.getElem?_eq_getElem (by omega)
   have hsel := selN_rk 0 mask _ i hlt hi1
   rw [hget i _ hik ho, hi2] at hsel
   rw [(hst r _ hsel).2]
   have := ((ih (by omega)).put ho (fun j oj d hj hoj hd hd2 => by
    have := hok.dsts i _ hik ho j oj (hml' j _ hj.1) hoj d hd hd2
    subst this
    have := hj.2
    omega)).same (E := fun j => mask[j]? = some 0 ∧ rkN 0 mask j < r + 1) (fun j => by
     constructor
     ·rintro (⟨a1, a2⟩ | rfl)
      ·exact ⟨a1, by omega⟩
      ·exact ⟨hi1, by omega⟩
     ·rintro ⟨a1, a2⟩
      by_cases e : rkN 0 mask j = r
      ·exact .inr (rkN_inj a1 hi1 (by omega))
      ·exact .inl ⟨a1, by omega⟩)
   rw [show vals r = vals (rkN 0 mask i) by rw [hi2]]
   exact this
 have hnF : (selN 0 mask (ops.toList.take k)).length = mask.count 0 := selN_len _ _ _ hlt
 rw [hnF] at hfin hfree
 have hn1 : (selN 1 mask (ops.toList.take k)).length = mask.count 1 := selN_len _ _ _ hlt
 have hn3 : (selN 3 mask (ops.toList.take k)).length = mask.count 3 := selN_len _ _ _ hlt
 let fin1 : Act → World → Prop := fun A W => ∀ (us : Nat → Value) W1, Since W W1 → (∀ j ∈ idxN 2 mask, R j W1 (us j)) → TFlow P ops (Since w0) (fun A W => wpList P ops Q (ops.toList.drop k) A W) (selN 3 mask (ops.toList.take k)) (putAll ops (idxN 2 mask) us A) W1
 have hfin1 : ∀ A W W', fin1 A W → Since W W' → fin1 A W' := fun A W W' h hs us W1 h1 => h us W1 (hs.after h1)
 let J : (Nat → Prop) → Act → World → Prop := fun D a' W =>
  (Since w0 W ∧ (∀ j, D j → j < k) ∧ (∀ j, mask[j]? = some 3 → ¬ D j) ∧ ∃ (V : Nat → Value) (q : Nat) (A : Act), (∀ j, mask[j]? = some 0 → V j = vals (rkN 0 mask j)) ∧ (∀ j, mask[j]? = some 1 → (D j ↔ rkN 1 mask j < q)) ∧
   (∀ j, mask[j]? = some 2 → D j → R j W (V j)) ∧ FrameIs a ops V D a' ∧ FrameIs a ops V (fun j => mask[j]? = some 0 ∨ (mask[j]? = some 1 ∧ rkN 1 mask j < q)) A ∧
   NFlow P ops fin1 ((selN 1 mask (ops.toList.take k)).drop q) A W) ∨
  (Since w0 W ∧ (∀ j, D j → j < k) ∧ (∀ j, mask[j]? = some 1 ∨ mask[j]? = some 2 → D j) ∧ ∃ (V : Nat → Value) (q : Nat) (A : Act), (∀ j, mask[j]? = some 0 → V j = vals (rkN 0 mask j)) ∧ (∀ j, mask[j]? = some 3 → (D j ↔ rkN 3 mask j < q)) ∧
   FrameIs a ops V D a' ∧ FrameIs a ops V (fun j => mask[j]? = some 0 ∨ mask[j]? = some 1 ∨ mask[j]? = some 2 ∨ (mask[j]? = some 3 ∧ rkN 3 mask j < q)) A ∧
   TFlow P ops (Since w0) (fun A W => wpList P ops Q (ops.toList.drop k) A W) ((selN 3 mask (ops.toList.take k)).drop q) A W) ∨
  (∃ m, k ≤ m ∧ m ≤ ops.size ∧ (∀ j, j < ops.size → (D j ↔ j < m)) ∧ wpList P ops Q (ops.toList.drop m) a' W)
 have turn : ∀ D a' W, J D a' W → (∀ j, mask[j]? = some 1 ∨ mask[j]? = some 2 → D j) → (∀ j, D j → j < k) →
   (Since w0 W ∧ ∃ (V : Nat → Value) (q : Nat) (A : Act), (∀ j, mask[j]? = some 0 → V j = vals (rkN 0 mask j)) ∧ (∀ j, mask[j]? = some 3 → (D j ↔ rkN 3 mask j < q)) ∧
   FrameIs a ops V D a' ∧ FrameIs a ops V (fun j => mask[j]? = some 0 ∨ mask[j]? = some 1 ∨ mask[j]? = some 2 ∨ (mask[j]? = some 3 ∧ rkN 3 mask j < q)) A ∧
   TFlow P ops (Since w0) (fun A W => wpList P ops Q (ops.toList.drop k) A W) ((selN 3 mask (ops.toList.take k)).drop q) A W) ∨ ∃ m, k ≤ m ∧ m ≤ ops.size ∧ (∀ j, j < ops.size → (D j ↔ j < m)) ∧ wpList P ops Q (ops.toList.drop m) a' W := by
  intro D a' W hJ hD hDk'
  rcases hJ with ⟨hW, hDk, h3, V, q, A, hV, hT, hU, hfr, hfA, hnf⟩ | ⟨hW, hDk, -, hJ⟩ | hJ
  ·have hq : mask.count 1 ≤ q := by
    by_cases e : mask.count 1 ≤ q
    ·exact e
    ·obtain ⟨i, hi1, hi2⟩ := rkN_has (b := 1) mask q (by omega)
     have := (hT i hi1).1 (hD i (.inl hi1))
     omega
   have enil : (selN 1 mask (ops.toList.take k)).drop q = [] := List.drop_eq_nil_of_le (by omega)
   rw [enil] at hnf
   have hnf' : fin1 A W := hnf
   have htf := hnf' V W (since_refl _) (fun j hj => hU j ((hi2 j).1 hj) (hD j (.inr ((hi2 j).1 hj))))
   refine .inl ⟨hW, V, 0, putAll ops (idxN 2 mask) V A, hV, fun j hj => ⟨fun h => absurd h (h3 j hj), fun h => by omega⟩, hfr, ?_, by rw [List.drop_zero]; exact htf⟩
   have := frame_putAll (a := a) hok.dsts hkn V (idxN 2 mask) _ A (fun j hj => hj.elim (fun h => hml' j _ h) (fun h => hml' j _ h.1)) (fun j hj => ⟨hml' j _ ((hi2 j).1 hj), fun e => by
    have h2 := (hi2 j).1 hj
    rcases e with e | ⟨e, -⟩ <;> rw [h2] at e <;> cases e⟩) (List.Pairwise.filter _ List.nodup_range) hfA
   exact this.same (fun j => by
    rw [hi2]
    constructor
    ·rintro ((h | ⟨h, -⟩) | h)
     ·exact .inl h
     ·exact .inr (.inl h)
     ·exact .inr (.inr (.inl h))
    ·rintro (h | h | h | ⟨-, h⟩)
     ·exact .inl (.inl h)
     ·exact .inl (.inr ⟨h, by have := rkN_lt_count h; omega⟩)
     ·exact .inr h
     ·omega)
  ·exact .inl ⟨hW, hJ⟩
  ·exact .inr hJ
 have full : ∀ D a' W, J D a' W → (∀ j, j < k → D j) → ∃ m, k ≤ m ∧ m ≤ ops.size ∧ (∀ j, j < ops.size → (D j ↔ j < m)) ∧ wpList P ops Q (ops.toList.drop m) a' W := by
  intro D a' W hJ hD
  by_cases hDk : ∀ j, D j → j < k
  ·rcases turn D a' W hJ (fun j hj => hD j (hj.elim (hml' j _) (hml' j _))) hDk with ⟨hW, V, q, A, hV, hT, hfr, hfA, htf⟩ | hJ
   ·have hq : mask.count 3 ≤ q := by
     by_cases e : mask.count 3 ≤ q
     ·exact e
     ·obtain ⟨i, hi1, hi2⟩ := rkN_has (b := 3) mask q (by omega)
      have := (hT i hi1).1 (hD i (hml' i _ hi1))
      omega
    have enil : (selN 3 mask (ops.toList.take k)).drop q = [] := List.drop_eq_nil_of_le (by omega)
    rw [enil] at htf
    have : a' = A := hfr.ext hfA (fun j hj => by
     constructor
     ·intro hj'
      obtain ⟨b, hb, hb3⟩ := hmk j (hDk j hj')
      have : b = 0 ∨ b = 1 ∨ b = 2 ∨ b = 3 := by omega
      rcases this with rfl | rfl | rfl | rfl
      ·exact .inl hb
      ·exact .inr (.inl hb)
      ·exact .inr (.inr (.inl hb))
      ·exact .inr (.inr (.inr ⟨hb, (hT j hb).1 hj'⟩))
     ·rintro (hb | hb | hb | ⟨hb, _⟩) <;> exact hD j (hml' j _ hb))
    subst this
    exact ⟨k, Nat.le_refl _, hkn, fun j _ => ⟨fun h => hDk j h, fun h => hD j h⟩, htf⟩
   ·exact hJ
  ·rcases hJ with ⟨-, hDk', -⟩ | ⟨-, hDk', -⟩ | hJ
   ·exact absurd hDk' hDk
   ·exact absurd hDk' hDk
   ·exact hJ
 refine wp_region_inv2 hm hok.back J (.inl ⟨since_drew hs0, fun j hj => hj.elim, fun j _ hj => hj.elim, fun j => vals (rkN 0 mask j), 0, F (mask.count 0), fun j _ => rfl, fun j _ => ⟨fun h => h.elim, fun h => by omega⟩, fun j _ hj => hj.elim, ⟨rfl, rfl, fun j _ _ hj => hj.elim, fun _ _ => rfl⟩, ?_, ?_⟩) ?_ ?_
 ·exact (hpure _ (Nat.le_refl _)).same (fun j => by
   constructor
   ·rintro ⟨a1, -⟩; exact .inl a1
   ·rintro (a1 | ⟨-, a2⟩)
    ·exact ⟨a1, rkN_lt_count a1⟩
    ·omega)
 ·rw [List.drop_zero]; exact hfin _ (since_drew hs0)
 ·intro D a' W i o hJ ho hDi hdep hcl
  have hin : i < ops.size := (Array.getElem?_eq_some_iff.1 ho).1
  by_cases hik : i < k
  ·have hDk : ∀ j, D j → j < k := by
    rcases hJ with ⟨-, h, -⟩ | ⟨-, h, -⟩ | ⟨m, h1, h2, h3, -⟩
    ·exact h
    ·exact h
    ·exact absurd ((h3 i hin).2 (by omega)) hDi
   have hDk2 : ∀ j, (D j ∨ j = i) → j < k := fun j hj => hj.elim (hDk j) (fun e => by omega)
   have hno3 : ∀ {p : Prop}, (∃ m, k ≤ m ∧ m ≤ ops.size ∧ (∀ j, j < ops.size → (D j ↔ j < m)) ∧ wpList P ops Q (ops.toList.drop m) a' W) → p := fun ⟨m, h1, h2, h3, _⟩ => absurd ((h3 i hin).2 (by omega)) hDi
   have look : ∀ t ∈ o.looksAt ops, ∀ j oj, j < k → ops[j]? = some oj → oj.dst = some t → D j ∧ j ∈ depsOf o := fun t ht j oj hjk hoj hd => by
    have := hok.looks i o hik ho t ht j oj hjk hoj hd
    exact ⟨hdep j this, this⟩
   have dist : ∀ (E : Nat → Prop), (∀ j, E j → j < k) → ¬ E i → ∀ j oj d, E j → ops[j]? = some oj → o.dst = some d → oj.dst ≠ some d := fun E hE hEi j oj d hj hoj hd hd2 => by
    have := hok.dsts i o hik ho j oj (hE j hj) hoj d hd hd2
    subst this
    exact hEi hj
   obtain ⟨b, hb, hb3⟩ := hmk i hik
   have hb' : b = 0 ∨ b = 1 ∨ b = 2 ∨ b = 3 := by omega
   have cls : ∀ j c, mask[j]? = some c → c ≠ b → j ≠ i := fun j c hj hc e => by subst e; rw [hb] at hj; cases hj; exact hc rfl
   rcases hb' with rfl | rfl | rfl | rfl
   ·-- a read
    have hsel := selN_rk 0 mask _ i hlt hb
    rw [hget i _ hik ho] at hsel
    obtain ⟨⟨hw, hrun⟩, -⟩ := hst _ _ hsel
    have hr := rkN_lt_count hb
    have key : ∀ V : Nat → Value, (∀ j, mask[j]? = some 0 → V j = vals (rkN 0 mask j)) → FrameIs a ops V D a' → execOp a'.eval o = execOp (F (rkN 0 mask i)).eval o ∧ Region.wanted o (yielded ops a'.tmps) = Region.wanted o (yielded ops (F (rkN 0 mask i)).tmps) := fun V hV hfr =>
     agree_exec (ops := ops) (a' := a') (A := F (rkN 0 mask i)) (fun t ht => hfr.agree ((hpure _ (Nat.le_of_lt hr)).vals (v' := V) (fun j hj => (hV j hj.1).symm)) t (fun j oj hj hoj hd => by
      have hjk : j < k := hj.elim (fun h => hDk j h) (fun h => hml' j _ h.1)
      obtain ⟨d1, d2⟩ := look t ht j oj hjk hoj hd
      have hjf := c0 i o j hb ho d2
      exact ⟨d1, hjf, rkN_lt (hok.back i o ho j d2) hjf⟩)) (fun cs b => hok.nosel i o cs b ho)
    have putV : ∀ V : Nat → Value, (∀ j, mask[j]? = some 0 → V j = vals (rkN 0 mask j)) → FrameIs a ops V D a' → FrameIs a ops V (fun j => D j ∨ j = i) (a'.put o.dst (vals (rkN 0 mask i))) := fun V hV hfr => by
     have := hfr.put (i := i) ho (dist D hDk hDi)
     rwa [hV i hb] at this
    have dd : ∀ j c, c ≠ 0 → mask[j]? = some c → ((D j ∨ j = i) ↔ D j) := fun j c hc hj => ⟨fun h => h.elim id (fun e => absurd e (cls j c hj hc)), .inl⟩
    rcases hJ with ⟨hW, -, h3, V, q, A, hV, hT, hU, hfr, hfA, hnf⟩ | ⟨hW, -, h12, V, q, A, hV, hT, hfr, hfA, htf⟩ | hJ
    ·obtain ⟨he, hw'⟩ := key V hV hfr
     rw [if_pos (hw'.trans hw)]
     refine .inl ?_
     unfold Oper.wp
     rw [he, hrun W hW]
     exact .inl ⟨hW, hDk2, fun j hj h => h3 j hj ((dd j 3 (by decide) hj).1 h), V, q, A, hV, fun j hj => (dd j 1 (by decide) hj).trans (hT j hj), fun j hj h => hU j hj ((dd j 2 (by decide) hj).1 h), putV V hV hfr, hfA, hnf⟩
    ·obtain ⟨he, hw'⟩ := key V hV hfr
     rw [if_pos (hw'.trans hw)]
     refine .inl ?_
     unfold Oper.wp
     rw [he, hrun W hW]
     exact .inr (.inl ⟨hW, hDk2, fun j hj => .inl (h12 j hj), V, q, A, hV, fun j hj => (dd j 3 (by decide) hj).trans (hT j hj), putV V hV hfr, hfA, htf⟩)
    ·exact hno3 hJ
   ·-- the first chain
    rcases hJ with ⟨hW, -, h3, V, q, A, hV, hT, hU, hfr, hfA, hnf⟩ | ⟨hW, -, h12, -⟩ | hJ
    rotate_left
    ·exact absurd (h12 i (.inl hb)) hDi
    ·exact hno3 hJ
    have hq : rkN 1 mask i = q := by
     have h1 : ¬ rkN 1 mask i < q := fun h => hDi ((hT i hb).2 h)
     by_cases e : rkN 1 mask i = q
     ·exact e
     ·obtain ⟨j, hj1, hj2⟩ := rkN_has (b := 1) mask q (by have := rkN_lt_count hb; omega)
      have hji : j < i := by
       rcases Nat.lt_trichotomy j i with h | h | h
       ·exact h
       ·subst h; omega
       ·have := rkN_lt h hb; omega
      have := anc_ready hcl ho hdep (ch1 i j hb hj1 hji)
      have := (hT j hj1).1 this
      omega
    have hsel := selN_rk 1 mask _ i hlt hb
    rw [hget i _ hik ho, hq] at hsel
    have hqn : q < (selN 1 mask (ops.toList.take k)).length := (List.getElem?_eq_some_iff.1 hsel).1
    rw [List.drop_eq_getElem_cons hqn, (List.getElem?_eq_some_iff.1 hsel).2] at hnf
    obtain ⟨he, hw'⟩ := agree_exec (ops := ops) (a' := a') (A := A) (fun t ht => hfr.agree hfA t (fun j oj hj hoj hd => by
     have hjk : j < k := hj.elim (fun h => hDk j h) (fun h => h.elim (hml' j _) (fun h => hml' j _ h.1))
     obtain ⟨d1, d2⟩ := look t ht j oj hjk hoj hd
     refine ⟨d1, ?_⟩
     rcases c1 i o j hb ho d2 with hb' | hb'
     ·exact .inl hb'
     ·exact .inr ⟨hb', (hT j hb').1 d1⟩)) (fun cs b => hok.nosel i o cs b ho)
    have next : ∀ u W', Since W W' → NFlow P ops fin1 ((selN 1 mask (ops.toList.take k)).drop (q + 1)) (A.put o.dst u) W' → J (fun j => D j ∨ j = i) (a'.put o.dst u) W' := by
     intro u W' hS ht
     let V' : Nat → Value := fun j => if j = i then u else V j
     have e1 : ∀ j, j ≠ i → V' j = V j := fun j hj => if_neg hj
     have e2 : V' i = u := if_pos rfl
     refine .inl ⟨hW.after hS, hDk2, fun j hj h => h.elim (h3 j hj) (cls j 3 hj (by decide)), V', q + 1, A.put o.dst u, fun j hj => ?_, fun j hj => ?_, fun j hj h => ?_, ?_, ?_, ht⟩
     ·rw [e1 j (cls j 0 hj (by decide))]; exact hV j hj
     ·constructor
      ·rintro (h | rfl)
       ·have := (hT j hj).1 h; omega
       ·omega
      ·intro h
       by_cases e : rkN 1 mask j = q
       ·exact .inr (rkN_inj hj hb (by omega))
       ·exact .inl ((hT j hj).2 (by omega))
     ·rw [e1 j (cls j 2 hj (by decide))]
      exact hR j W W' _ (hU j hj (h.elim id (fun e => absurd e (cls j 2 hj (by decide))))) hS
     ·have := (hfr.vals2 (v' := V') (fun j _ hj => (e1 j (fun e => by subst e; exact hDi hj)).symm)).put (i := i) ho (dist D hDk hDi)
      rwa [e2] at this
     ·have hEi : ¬ (mask[i]? = some 0 ∨ (mask[i]? = some 1 ∧ rkN 1 mask i < q)) := by
       rintro (h | ⟨-, h⟩)
       ·rw [hb] at h; cases h
       ·omega
      have := ((hfA.vals2 (v' := V') (fun j _ hj => (e1 j (fun e => by subst e; exact hEi hj)).symm)).put (i := i) ho (dist _ (fun j hj => hj.elim (hml' j _) (fun h => hml' j _ h.1)) hEi)).same (E := fun j => mask[j]? = some 0 ∨ (mask[j]? = some 1 ∧ rkN 1 mask j < q + 1)) (fun j => by
        constructor
        ·rintro ((h | ⟨h, h'⟩) | rfl)
         ·exact .inl h
         ·exact .inr ⟨h, by omega⟩
         ·exact .inr ⟨hb, by omega⟩
        ·rintro (h | ⟨h, h'⟩)
         ·exact .inl (.inl h)
         ·by_cases e : rkN 1 mask j = q
          ·exact .inr (rkN_inj h hb (by omega))
          ·exact .inl (.inr ⟨h, by omega⟩))
      rwa [e2] at this
    obtain ⟨hw, hrun⟩ := hnf W (since_refl _)
    rw [if_pos (hw'.trans hw)]
    refine .inl ?_
    unfold Oper.wp
    rw [he]
    generalize (execOp A.eval o).run P W = r at hrun ⊢
    cases r with
    | ok nx W' =>
     cases nx with
     | value u => exact next u W' hrun.1 hrun.2
     | enter f args =>
      simp only [Oper.upon]
      exact Calls.mono hrun fun e W'' ⟨u, he', h3, h4⟩ => by subst he'; exact next u W'' h3 h4
     | _ => exact hrun.elim
    | halt x W' => exact hrun.elim
   ·-- a free one
    rcases hJ with ⟨hW, -, h3, V, q, A, hV, hT, hU, hfr, hfA, hnf⟩ | ⟨hW, -, h12, -⟩ | hJ
    rotate_left
    ·exact absurd (h12 i (.inr hb)) hDi
    ·exact hno3 hJ
    obtain ⟨hw, hgv⟩ := hfree i ((hi2 i).2 hb) o ho
    obtain ⟨he, hw'⟩ := agree_exec (ops := ops) (a' := a') (A := F (mask.count 0)) (fun t ht => hfr.agree ((hpure _ (Nat.le_refl _)).vals (v' := V) (fun j hj => (hV j hj.1).symm)) t (fun j oj hj hoj hd => by
     have hjk : j < k := hj.elim (fun h => hDk j h) (fun h => hml' j _ h.1)
     obtain ⟨d1, d2⟩ := look t ht j oj hjk hoj hd
     have hjf := c2 i o j hb ho d2
     exact ⟨d1, hjf, rkN_lt_count hjf⟩)) (fun cs b => hok.nosel i o cs b ho)
    have next : ∀ u W', R i W' u → Since W W' → J (fun j => D j ∨ j = i) (a'.put o.dst u) W' := by
     intro u W' hr hS
     let V' : Nat → Value := fun j => if j = i then u else V j
     have e1 : ∀ j, j ≠ i → V' j = V j := fun j hj => if_neg hj
     have e2 : V' i = u := if_pos rfl
     refine .inl ⟨hW.after hS, hDk2, fun j hj h => h.elim (h3 j hj) (cls j 3 hj (by decide)), V', q, A, fun j hj => ?_, fun j hj => ?_, fun j hj h => ?_, ?_, ?_, NFlow.since hfin1 _ _ _ _ hnf hS⟩
     ·rw [e1 j (cls j 0 hj (by decide))]; exact hV j hj
     ·rw [← hT j hj]
      exact ⟨fun h => h.elim id (fun e => absurd e (cls j 1 hj (by decide))), .inl⟩
     ·by_cases e : j = i
      ·subst e; rw [e2]; exact hr
      ·rw [e1 j e]; exact hR j W W' _ (hU j hj (h.elim id (fun e' => absurd e' e))) hS
     ·have := (hfr.vals2 (v' := V') (fun j _ hj => (e1 j (fun e => by subst e; exact hDi hj)).symm)).put (i := i) ho (dist D hDk hDi)
      rwa [e2] at this
     ·exact hfA.vals2 (fun j _ hj => (e1 j (by
       rcases hj with hj | ⟨hj, -⟩
       ·exact cls j 0 hj (by decide)
       ·exact cls j 1 hj (by decide))).symm)
    rw [if_pos (hw'.trans hw)]
    refine .inl ?_
    unfold Oper.wp
    rw [he]
    have hgv := hgv W hW
    unfold GivesAny at hgv
    generalize (execOp (F (mask.count 0)).eval o).run P W = r at hgv ⊢
    cases r with
    | ok nx W' =>
     cases nx with
     | value u' => exact next u' W' hgv.1 hgv.2
     | enter f args =>
      simp only [Oper.upon]
      exact Calls.mono hgv fun e W'' ⟨u, he', h3, h4⟩ => by subst he'; exact next u W'' h3 h4
     | _ => exact hgv.elim
    | halt x W' => exact hgv.elim
   ·-- the chain behind
    have h12 : ∀ j, mask[j]? = some 1 ∨ mask[j]? = some 2 → D j := fun j hj => anc_ready hcl ho hdep (ch3 i j hb (hj.elim .inl (fun h => .inr (.inl h))))
    rcases turn D a' W hJ h12 hDk with ⟨hW, V, q, A, hV, hT, hfr, hfA, htf⟩ | hJ'
    rotate_left
    ·exact hno3 hJ'
    have hq : rkN 3 mask i = q := by
     have h1 : ¬ rkN 3 mask i < q := fun h => hDi ((hT i hb).2 h)
     by_cases e : rkN 3 mask i = q
     ·exact e
     ·obtain ⟨j, hj1, hj2⟩ := rkN_has (b := 3) mask q (by have := rkN_lt_count hb; omega)
      have hji : j < i := by
       rcases Nat.lt_trichotomy j i with h | h | h
       ·exact h
       ·subst h; omega
       ·have := rkN_lt h hb; omega
      have := anc_ready hcl ho hdep (ch3 i j hb (.inr (.inr ⟨hj1, hji⟩)))
      have := (hT j hj1).1 this
      omega
    have hsel := selN_rk 3 mask _ i hlt hb
    rw [hget i _ hik ho, hq] at hsel
    have hqn : q < (selN 3 mask (ops.toList.take k)).length := (List.getElem?_eq_some_iff.1 hsel).1
    rw [List.drop_eq_getElem_cons hqn, (List.getElem?_eq_some_iff.1 hsel).2] at htf
    obtain ⟨he, hw'⟩ := agree_exec (ops := ops) (a' := a') (A := A) (fun t ht => hfr.agree hfA t (fun j oj hj hoj hd => by
     have hjk : j < k := hj.elim (fun h => hDk j h) (fun h => h.elim (hml' j _) (fun h => h.elim (hml' j _) (fun h => h.elim (hml' j _) (fun h => hml' j _ h.1))))
     obtain ⟨d1, d2⟩ := look t ht j oj hjk hoj hd
     refine ⟨d1, ?_⟩
     obtain ⟨b, hb', hb4⟩ := hmk j hjk
     have : b = 0 ∨ b = 1 ∨ b = 2 ∨ b = 3 := by omega
     rcases this with rfl | rfl | rfl | rfl
     ·exact .inl hb'
     ·exact .inr (.inl hb')
     ·exact .inr (.inr (.inl hb'))
     ·exact .inr (.inr (.inr ⟨hb', (hT j hb').1 d1⟩)))) (fun cs b => hok.nosel i o cs b ho)
    have next : ∀ u W', Since w0 W' → TFlow P ops (Since w0) (fun A W => wpList P ops Q (ops.toList.drop k) A W) ((selN 3 mask (ops.toList.take k)).drop (q + 1)) (A.put o.dst u) W' → J (fun j => D j ∨ j = i) (a'.put o.dst u) W' := by
     intro u W' hS ht
     let V' : Nat → Value := fun j => if j = i then u else V j
     have e1 : ∀ j, j ≠ i → V' j = V j := fun j hj => if_neg hj
     have e2 : V' i = u := if_pos rfl
     refine .inr (.inl ⟨hS, hDk2, fun j hj => .inl (h12 j hj), V', q + 1, A.put o.dst u, fun j hj => ?_, fun j hj => ?_, ?_, ?_, ht⟩)
     ·rw [e1 j (cls j 0 hj (by decide))]; exact hV j hj
     ·constructor
      ·rintro (h | rfl)
       ·have := (hT j hj).1 h; omega
       ·omega
      ·intro h
       by_cases e : rkN 3 mask j = q
       ·exact .inr (rkN_inj hj hb (by omega))
       ·exact .inl ((hT j hj).2 (by omega))
     ·have := (hfr.vals2 (v' := V') (fun j _ hj => (e1 j (fun e => by subst e; exact hDi hj)).symm)).put (i := i) ho (dist D hDk hDi)
      rwa [e2] at this
     ·have hEi : ¬ (mask[i]? = some 0 ∨ mask[i]? = some 1 ∨ mask[i]? = some 2 ∨ (mask[i]? = some 3 ∧ rkN 3 mask i < q)) := by
       rintro (h | h | h | ⟨-, h⟩)
       ·rw [hb] at h; cases h
       ·rw [hb] at h; cases h
       ·rw [hb] at h; cases h
       ·omega
      have := ((hfA.vals2 (v' := V') (fun j _ hj => (e1 j (fun e => by subst e; exact hEi hj)).symm)).put (i := i) ho (dist _ (fun j hj => hj.elim (hml' j _) (fun h => h.elim (hml' j _) (fun h => h.elim (hml' j _) (fun h => hml' j _ h.1)))) hEi)).same (E := fun j => mask[j]? = some 0 ∨ mask[j]? = some 1 ∨ mask[j]? = some 2 ∨ (mask[j]? = some 3 ∧ rkN 3 mask j < q + 1)) (fun j => by
        constructor
        ·rintro ((h | h | h | ⟨h, h'⟩) | rfl)
         ·exact .inl h
         ·exact .inr (.inl h)
         ·exact .inr (.inr (.inl h))
         ·exact .inr (.inr (.inr ⟨h, by omega⟩))
         ·exact .inr (.inr (.inr ⟨hb, by omega⟩))
        ·rintro (h | h | h | ⟨h, h'⟩)
         ·exact .inl (.inl h)
         ·exact .inl (.inr (.inl h))
         ·exact .inl (.inr (.inr (.inl h)))
         ·by_cases e : rkN 3 mask j = q
          ·exact .inr (rkN_inj h hb (by omega))
          ·exact .inl (.inr (.inr (.inr ⟨h, by omega⟩))))
      rwa [e2] at this
    rcases htf with ⟨hw, hrun⟩ | ⟨hw, hrun⟩
    ·rw [if_pos (hw'.trans hw)]
     refine .inl ?_
     unfold Oper.wp
     rw [he]
     generalize (execOp A.eval o).run P W = r at hrun ⊢
     cases r with
     | ok nx W' =>
      cases nx with
      | value u => exact next u W' hrun.1 hrun.2
      | skip => exact next undef W' hrun.1 hrun.2
      | row row args => exact Rows.mono hrun fun u W'' h => next u W'' h.1 h.2
      | enter f args =>
       simp only [Oper.upon]
       exact Calls.mono hrun fun e W'' ⟨u, he', h3, h4⟩ => by subst he'; exact next u W'' h3 h4
      | _ => exact hrun.elim
     | halt x W' => exact hrun.elim
    ·rw [if_neg (by rw [hw'.trans hw]; simp)]
     exact next _ _ hW hrun
  ·-- the tail
   have hall : ∀ j, j < i → D j := fun j hj => anc_ready hcl ho hdep (hok.tail i (by omega) hin j hj)
   obtain ⟨m, h1, h2, h3, h4⟩ := full D a' W hJ (fun j hj => hall j (by omega))
   have hmi : m = i := by
    by_cases e1 : i < m
    ·exact absurd ((h3 i hin).2 e1) hDi
    ·by_cases e2 : m < i
     ·have := (h3 m (by omega)).1 (hall m e2); omega
     ·omega
   subst hmi
   have hdr : ops.toList.drop m = o :: ops.toList.drop (m + 1) := by
    have : m < ops.toList.length := by simpa using hin
    rw [List.drop_eq_getElem_cons this]
    congr 1
    have := (Array.getElem?_eq_some_iff.1 ho).2
    simpa using this
   rw [hdr] at h4
   unfold wpList at h4
   have next : ∀ a W, wpList P ops Q (ops.toList.drop (m + 1)) a W → J (fun j => D j ∨ j = m) a W := fun a W h => .inr (.inr ⟨m + 1, by omega, by omega, fun j hj => by
    constructor
    ·rintro (h | rfl)
     ·have := (h3 j hj).1 h; omega
     ·omega
    ·intro h
     by_cases e : j = m
     ·exact .inr e
     ·exact .inl ((h3 j hj).2 (by omega)), h⟩)
   split
   ·rename_i hw
    rw [if_pos hw] at h4
    exact h4.imp (Oper.wp_mono next) id
   ·rename_i hw
    rw [if_neg hw] at h4
    exact next _ _ h4
 ·intro D a' W hJ hall
  obtain ⟨m, h1, h2, h3, h4⟩ := full D a' W hJ (fun j hj => hall j (by omega))
  have hmn : m = ops.size := by
   by_cases e : m < ops.size
   ·have := (h3 m e).1 (hall m e); omega
   ·omega
  subst hmn
  rw [List.drop_eq_nil_of_le (by simp)] at h4
  exact h4
def Lit1 (v : Int) (W : World) (u : Value) : Prop := ∃ g, u = .slice (some ⟨g, 0, none⟩) 1 1 ∧ W.cell? ⟨g, 0, none⟩ = some (.int .i64 v)
theorem Lit1.keep {v : Int} {W W' : World} {u : Value} (h : Lit1 v W u) (hs : Since W W') : Lit1 v W' u := h.elim fun g hg => ⟨g, hg.1, hs.cell hg.2⟩
theorem Lit1.new (v : Int) (W : World) (t : TypeId) : Lit1 v (W.alloc (.cells #[.int .i64 v] t)) (.slice (some ⟨W.heap.size, 0, none⟩) 1 1) := ⟨_, rfl, by simp⟩
end
end Go.Proofs.YtgmdpppljkmabaaGreat
