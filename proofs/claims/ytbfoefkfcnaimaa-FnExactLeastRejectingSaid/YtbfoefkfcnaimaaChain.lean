import Derived.Test.YtbfoefkfcnaimaaFlow
namespace Go.Proofs.Ytbfoefkfcnaimaa
open Go Go.RowKit
/-! A region that draws its order: reads in any order, a chain of operations whose values are not known ahead (calls that make memory), and a tail that has one order. -/
section
variable {P : Program} {ops : Array Oper}
/-- a region by an invariant of what is done -/
theorem inv_main2 {Q : Exit → Act → World → Prop} (hback : ∀ i o, ops[i]? = some o → ∀ j ∈ depsOf o, j < i) (J : (Nat → Prop) → Act → World → Prop)
    (hstep : ∀ (D : Nat → Prop) a w i o, J D a w → ops[i]? = some o → ¬ D i → (∀ d ∈ depsOf o, D d) → (∀ i o, D i → ops[i]? = some o → ∀ d ∈ depsOf o, D d) →
      if Region.wanted o (yielded ops a.tmps) = true then Oper.wp P o a w (J (fun j => D j ∨ j = i)) Q ∨ (o.asks P a w ∧ LetsOut Q) else J (fun j => D j ∨ j = i) (a.put o.dst undef) w)
    (hend : ∀ (D : Nat → Prop) a w, J D a w → (∀ i, i < ops.size → D i) → Q .normal a w) :
    ∀ (fuel : Nat) (listed : Array Bool) (a : Act) (W : World), listed.size = ops.size → (∀ i o, listed.getD i false = true → ops[i]? = some o → ∀ j ∈ depsOf o, listed.getD j false = true) →
      ((List.range ops.size).filter fun j => !listed.getD j false).length ≤ fuel → J (fun j => listed.getD j false = true) a W → wpAny P .any ops Q fuel listed a W := by
  have least : ∀ (listed : Array Bool), listed.size = ops.size → Region.ready .any ops listed = [] → ∀ m, ∀ j, j ≤ m → j < ops.size → listed.getD j false = true := by
    intro listed hsz hnil m
    induction m using Nat.strongRecOn with
    | ind m ihm =>
      intro j hjm hjs
      refine Classical.byContradiction fun hjn => ?_
      have hjn : listed.getD j false = false := by cases hb : listed.getD j false <;> simp_all
      have hmem : j ∈ Region.ready .any ops listed := mem_ready'.2 ⟨by rw [unlisted (by omega)]; exact hjn, ops[j], Array.getElem?_eq_getElem hjs, fun d hd => by
        have hdj := hback j _ (Array.getElem?_eq_getElem hjs) d hd
        exact ihm d (by omega) d (Nat.le_refl _) (by omega)⟩
      rw [hnil] at hmem
      simp at hmem
  intro fuel
  induction fuel with
  | zero =>
    intro listed a W hsz hcl hfl hJ
    have hall : ∀ j, j < ops.size → listed.getD j false = true := fun j hj => by
      rcases hb : listed.getD j false with _ | _
      · have : 0 < ((List.range ops.size).filter fun j => !listed.getD j false).length := List.length_pos_of_mem (List.mem_filter.2 ⟨List.mem_range.2 hj, by simp [hb]⟩)
        omega
      · rfl
    refine ⟨List.eq_nil_iff_forall_not_mem.2 fun i hi => ?_, hend _ a W hJ hall⟩
    obtain ⟨h0, o, ho, _⟩ := mem_ready'.1 hi
    have hin : i < ops.size := (Array.getElem?_eq_some_iff.1 ho).1
    rw [unlisted (by omega), hall i hin] at h0
    cases h0
  | succ fuel ih =>
    intro listed a W hsz hcl hfl hJ
    refine ⟨fun hnil => hend _ a W hJ fun j hj => least listed hsz hnil j j (Nat.le_refl _) hj, fun i hi => ?_⟩
    obtain ⟨h0, o, ho, hdep⟩ := mem_ready'.1 hi
    have hin : i < ops.size := (Array.getElem?_eq_some_iff.1 ho).1
    rw [unlisted (by omega)] at h0
    have hset : ∀ j, (listed.setIfInBounds i true).getD j false = true ↔ (listed.getD j false = true ∨ j = i) := fun j => by
      by_cases hji : i = j
      · subst hji; simp [hsz, hin]
      · rw [getD_set_ne false hji]
        constructor
        · exact .inl
        · rintro (h | h)
          · exact h
          · exact absurd h.symm hji
    have hD : (fun j => (listed.setIfInBounds i true).getD j false = true) = fun j => listed.getD j false = true ∨ j = i := funext fun j => propext (hset j)
    have next : ∀ a W, J (fun j => listed.getD j false = true ∨ j = i) a W → wpAny P .any ops Q fuel (listed.setIfInBounds i true) a W := fun a W hJ' => by
      refine ih _ a W (by simpa using hsz) (fun i' o' hi' ho' j hj => ?_) ?_ (by rw [hD]; exact hJ')
      · rcases (hset i').1 hi' with h | rfl
        · exact (hset j).2 (.inl (hcl i' o' h ho' j hj))
        · rw [ho] at ho'; cases ho'
          exact (hset j).2 (.inl (hdep j hj))
      · have hlt' := filter_lt (l := List.range ops.size) (p := fun j => !listed.getD j false) (q := fun j => !(listed.setIfInBounds i true).getD j false) (fun x hx => by
          cases hb : listed.getD x false
          · rfl
          · have := (hset x).2 (.inl hb)
            simp only [this] at hx
            cases hx) (List.mem_range.2 hin) (by simp only [h0]; rfl) (by simp only [(hset i).2 (.inr rfl)]; rfl)
        omega
    have := hstep (fun j => listed.getD j false = true) a W i o hJ ho (by rw [h0]; simp) hdep hcl
    unfold wpOp
    simp only [ho]
    split
    · rename_i hw
      rw [if_pos hw] at this
      exact this.imp (Oper.wp_mono next) id
    · rename_i hw
      rw [if_neg hw] at this
      exact next _ _ this
theorem wp_region_inv2 {Q : Exit → Act → World → Prop} {id : Nat} {a : Act} {w : World} (hm : P.follows .mixedOrders = true) (hback : ∀ i o, ops[i]? = some o → ∀ j ∈ depsOf o, j < i) (J : (Nat → Prop) → Act → World → Prop)
    (h0 : J (fun _ => False) a w.drew)
    (hstep : ∀ (D : Nat → Prop) a w i o, J D a w → ops[i]? = some o → ¬ D i → (∀ d ∈ depsOf o, D d) → (∀ i o, D i → ops[i]? = some o → ∀ d ∈ depsOf o, D d) →
      if Region.wanted o (yielded ops a.tmps) = true then Oper.wp P o a w (J (fun j => D j ∨ j = i)) Q ∨ (o.asks P a w ∧ LetsOut Q) else J (fun j => D j ∨ j = i) (a.put o.dst undef) w)
    (hend : ∀ (D : Nat → Prop) a w, J D a w → (∀ i, i < ops.size → D i) → Q .normal a w) : (Code.region id ops true).wp P Q a w := by
  refine wp_region_any hm ?_
  refine inv_main2 (P := P) (Q := Q) hback J hstep hend ops.size (Array.replicate ops.size false) a w.drew (by simp) (fun i o hi => by rw [rep_false] at hi; cases hi) ?_ ?_
  · have := List.length_filter_le (fun j => !(Array.replicate ops.size false).getD j false) (List.range ops.size)
    simpa using this
  · have : (fun j => (Array.replicate ops.size false).getD j false = true) = fun _ => False := funext fun j => propext ⟨(fun h => by rw [rep_false] at h; cases h), fun h => h.elim⟩
    rw [this]
    exact h0
/-- the members of a list where the mask is true, and those where it is false -/
def selT {α : Type} : List Bool → List α → List α
  | true :: m, o :: l => o :: selT m l
  | false :: m, _ :: l => selT m l
  | [], _ => []
  | _ :: _, [] => []
def selF {α : Type} : List Bool → List α → List α
  | true :: m, _ :: l => selF m l
  | false :: m, o :: l => o :: selF m l
  | [], _ => []
  | _ :: _, [] => []
def rk (b : Bool) (m : List Bool) (i : Nat) : Nat := (m.take i).count b
theorem selT_rk {α : Type} : ∀ (m : List Bool) (l : List α) (i : Nat), m.length = l.length → m[i]? = some true → (selT m l)[rk true m i]? = l[i]?
  | [], _, i, _, h => by simp at h
  | true :: m, o :: l, 0, _, _ => by simp [rk, selT]
  | true :: m, o :: l, i + 1, hl, h => by
    have := selT_rk m l i (by simpa using hl) (by simpa using h)
    simpa [rk, selT] using this
  | false :: m, o :: l, 0, _, h => by simp at h
  | false :: m, o :: l, i + 1, hl, h => by
    have := selT_rk m l i (by simpa using hl) (by simpa using h)
    simpa [rk, selT] using this
theorem selF_rk {α : Type} : ∀ (m : List Bool) (l : List α) (i : Nat), m.length = l.length → m[i]? = some false → (selF m l)[rk false m i]? = l[i]?
  | [], _, i, _, h => by simp at h
  | false :: m, o :: l, 0, _, _ => by simp [rk, selF]
  | false :: m, o :: l, i + 1, hl, h => by
    have := selF_rk m l i (by simpa using hl) (by simpa using h)
    simpa [rk, selF] using this
  | true :: m, o :: l, 0, _, h => by simp at h
  | true :: m, o :: l, i + 1, hl, h => by
    have := selF_rk m l i (by simpa using hl) (by simpa using h)
    simpa [rk, selF] using this
theorem selT_len {α : Type} : ∀ (m : List Bool) (l : List α), m.length = l.length → (selT m l).length = m.count true
  | [], [], _ => rfl
  | true :: m, o :: l, hl => by simp [selT, selT_len m l (by simpa using hl)]
  | false :: m, o :: l, hl => by simp [selT, selT_len m l (by simpa using hl)]
theorem selF_len {α : Type} : ∀ (m : List Bool) (l : List α), m.length = l.length → (selF m l).length = m.count false
  | [], [], _ => rfl
  | true :: m, o :: l, hl => by simp [selF, selF_len m l (by simpa using hl)]
  | false :: m, o :: l, hl => by simp [selF, selF_len m l (by simpa using hl)]
theorem rk_succ {b : Bool} {m : List Bool} {i : Nat} {x : Bool} (h : m[i]? = some x) : rk b m (i + 1) = rk b m i + if x = b then 1 else 0 := by
  obtain ⟨hi, rfl⟩ := List.getElem?_eq_some_iff.1 h
  unfold rk
  rw [List.take_succ_eq_append_getElem hi, List.count_append]
  congr 1
  simp [List.count_cons]
theorem rk_le {b : Bool} {m : List Bool} {i j : Nat} (h : i ≤ j) : rk b m i ≤ rk b m j := by
  unfold rk
  exact List.Sublist.count_le _ (List.IsPrefix.sublist (List.take_prefix_take_left h))
theorem rk_lt {b : Bool} {m : List Bool} {i j : Nat} (h : i < j) (hi : m[i]? = some b) : rk b m i < rk b m j := by
  have h1 := rk_succ (b := b) hi
  rw [if_pos rfl] at h1
  have := rk_le (b := b) (m := m) (show i + 1 ≤ j from h)
  omega
theorem rk_inj {b : Bool} {m : List Bool} {i j : Nat} (hi : m[i]? = some b) (hj : m[j]? = some b) (h : rk b m i = rk b m j) : i = j := by
  rcases Nat.lt_trichotomy i j with hl | hl | hl
  · have := rk_lt hl hi; omega
  · exact hl
  · have := rk_lt hl hj; omega
theorem rk_lt_count {b : Bool} {m : List Bool} {i : Nat} (hi : m[i]? = some b) : rk b m i < m.count b := by
  have h1 := rk_lt (Nat.lt_of_lt_of_le (List.getElem?_eq_some_iff.1 hi).1 (Nat.le_refl m.length)) hi
  unfold rk at h1 ⊢
  rw [List.take_length] at h1
  exact h1
/-- an index of each rank -/
theorem rk_has {b : Bool} : ∀ (m : List Bool) (q : Nat), q < m.count b → ∃ i : Nat, m[i]? = some b ∧ rk b m i = q
  | [], q, h => by simp at h
  | x :: m, q, h => by
    by_cases hx : x = b
    · subst hx
      cases q with
      | zero => exact ⟨0, by simp, by simp [rk]⟩
      | succ q =>
        obtain ⟨i, h1, h2⟩ := rk_has m q (by simpa using h)
        exact ⟨i + 1, by simpa using h1, by have : rk x (x :: m) (i + 1) = rk x m i + 1 := by simp [rk]
                                            omega⟩
    · obtain ⟨i, h1, h2⟩ := rk_has m q (by rwa [List.count_cons_of_ne hx] at h)
      exact ⟨i + 1, by simpa using h1, by have : rk b (x :: m) (i + 1) = rk b m i := by simp [rk, List.count_cons_of_ne hx]
                                          omega⟩
/-- the chain: each operation ends in a world of S -/
def TFlow (P : Program) (ops : Array Oper) (S : World → Prop) (fin : Act → World → Prop) : List Oper → Act → World → Prop
  | [], A, W => fin A W
  | o :: rest, A, W =>
    (Region.wanted o (yielded ops A.tmps) = true ∧ match (execOp A.eval o).run P W with
      | .ok (.value u) W' => S W' ∧ TFlow P ops S fin rest (A.put o.dst u) W'
      | .ok (.enter f args) W' => Calls P f args W' fun e W'' => ∃ u, e = .returned u ∧ S W'' ∧ TFlow P ops S fin rest (A.put o.dst u) W''
      | _ => False) ∨ (Region.wanted o (yielded ops A.tmps) = false ∧ TFlow P ops S fin rest (A.put o.dst undef) W)
theorem tflow_val {S : World → Prop} {fin : Act → World → Prop} {o : Oper} {rest : List Oper} {A : Act} {W : World} {v : Value} (hw : Region.wanted o (yielded ops A.tmps) = true) (h : (execOp A.eval o).run P W = .ok (.value v) W) (hS : S W)
    (hr : TFlow P ops S fin rest (A.put o.dst v) W) : TFlow P ops S fin (o :: rest) A W := .inl ⟨hw, by rw [h]; exact ⟨hS, hr⟩⟩
theorem tflow_new {S : World → Prop} {fin : Act → World → Prop} {o : Oper} {rest : List Oper} {A : Act} {W W' : World} {v : Value} (hw : Region.wanted o (yielded ops A.tmps) = true) (h : (execOp A.eval o).run P W = .ok (.value v) W') (hS : S W')
    (hr : TFlow P ops S fin rest (A.put o.dst v) W') : TFlow P ops S fin (o :: rest) A W := .inl ⟨hw, by rw [h]; exact ⟨hS, hr⟩⟩
theorem tflow_skip {S : World → Prop} {fin : Act → World → Prop} {o : Oper} {rest : List Oper} {A : Act} {W : World} (hw : Region.wanted o (yielded ops A.tmps) = false)
    (hr : TFlow P ops S fin rest (A.put o.dst undef) W) : TFlow P ops S fin (o :: rest) A W := .inr ⟨hw, hr⟩
theorem tflow_call {S : World → Prop} {fin : Act → World → Prop} {o : Oper} {rest : List Oper} {A : Act} {W W' : World} {f : FuncId} {args : Array Value} (hw : Region.wanted o (yielded ops A.tmps) = true) (he : (execOp A.eval o).run P W = .ok (.enter f args) W')
    (h : Calls P f args W' fun e W'' => ∃ u, e = .returned u ∧ S W'' ∧ TFlow P ops S fin rest (A.put o.dst u) W'') : TFlow P ops S fin (o :: rest) A W := .inl ⟨hw, by rw [he]; exact h⟩
/-- what a chain region is: the first k operations are reads (mask false) and a chain (mask true); behind them there is one order -/
def chainB (ops : Array Oper) (k : Nat) (mask : List Bool) : Bool :=
  flowB ops k && decide (mask.length = k) && decide (k ≤ ops.size) &&
  (List.range k).all fun i => match ops[i]? with
    | none => true
    | some o => if mask.getD i true then (List.range i).all fun j => !mask.getD j true || ((closTbl ops (i + 1)).getD i []).contains j
      else (depsOf o).all fun j => !mask.getD j true
theorem wp_region_chain {Q : Exit → Act → World → Prop} {rid : Nat} {a : Act} {w w0 : World} (k : Nat) (mask : List Bool) (hm : P.follows .mixedOrders = true) (hc : chainB ops k mask = true) (hs0 : Since w0 w)
    (h : PFlow P ops w0 (fun A => ∀ W, Since w0 W → TFlow P ops (Since w0) (fun A W => wpList P ops Q (ops.toList.drop k) A W) (selT mask (ops.toList.take k)) A W) (selF mask (ops.toList.take k)) a) : (Code.region rid ops true).wp P Q a w := by
  unfold chainB at hc
  simp only [Bool.and_eq_true, decide_eq_true_eq] at hc
  obtain ⟨⟨⟨hf, hml⟩, hkn⟩, hch⟩ := hc
  have hok := flow_ok hf
  have hlt : mask.length = (ops.toList.take k).length := by simp; omega
  have hmk : ∀ i, i < k → ∃ b, mask[i]? = some b := fun i hi => ⟨_, List.getElem?_eq_getElem (by omega)⟩
  have hget : ∀ i o, i < k → ops[i]? = some o → (ops.toList.take k)[i]? = some o := fun i o hi ho => by
    rw [List.getElem?_take, if_pos hi]; simpa using ho
  have hmd : ∀ i b, mask[i]? = some b → mask.getD i true = b := fun i b hb => by rw [List.getD_eq_getElem?_getD, hb]; rfl
  have hml' : ∀ i b, mask[i]? = some b → i < k := fun i b hb => by have := (List.getElem?_eq_some_iff.1 hb).1; omega
  have chT : ∀ i j, mask[i]? = some true → mask[j]? = some true → j < i → Anc ops j i := fun i j hi hj hji => by
    have hik := hml' i _ hi
    have ho : ops[i]? = some ops[i] := Array.getElem?_eq_getElem (by omega)
    have := List.all_eq_true.1 hch i (List.mem_range.2 hik)
    simp only [ho] at this
    rw [if_pos (hmd i _ hi)] at this
    have := List.all_eq_true.1 this j (List.mem_range.2 hji)
    rw [hmd j _ hj, Bool.not_true, Bool.false_or] at this
    exact closTbl_sound (i + 1) i j (by simpa using this)
  have chF : ∀ i o j, mask[i]? = some false → ops[i]? = some o → j ∈ depsOf o → mask[j]? = some false := fun i o j hi ho hj => by
    have hik := hml' i _ hi
    have hji := hok.back i o ho j hj
    have := List.all_eq_true.1 hch i (List.mem_range.2 hik)
    simp only [ho] at this
    rw [if_neg (by rw [hmd i _ hi]; simp)] at this
    have := List.all_eq_true.1 this j hj
    obtain ⟨b, hb⟩ := hmk j (by omega)
    rw [hmd j _ hb] at this
    cases b <;> simp_all
  obtain ⟨vals, F, h0, hfin, hst⟩ := pflow_frames _ a h
  -- the frames of the reads
  have hpure : ∀ r, r ≤ mask.count false → FrameIs a ops (fun j => vals (rk false mask j)) (fun j => mask[j]? = some false ∧ rk false mask j < r) (F r) := by
    intro r
    induction r with
    | zero => intro _; rw [h0]; exact ⟨rfl, rfl, fun j _ _ hj => by have := hj.2; omega, fun _ _ => rfl⟩
    | succ r ih =>
      intro hr
      obtain ⟨i, hi1, hi2⟩ := rk_has (b := false) mask r (by omega)
      have hik := hml' i _ hi1
      have ho : ops[i]? = some ops[i] := Array.getElem?_eq_getElem (by omega)
      have hsel := selF_rk mask _ i hlt hi1
      rw [hget i _ hik ho, hi2] at hsel
      rw [(hst r _ hsel).2]
      have := ((ih (by omega)).put ho (fun j oj d hj hoj hd hd2 => by
        have := hok.dsts i _ hik ho j oj (hml' j _ hj.1) hoj d hd hd2
        subst this
        have := hj.2
        omega)).same (E := fun j => mask[j]? = some false ∧ rk false mask j < r + 1) (fun j => by
          constructor
          · rintro (⟨a1, a2⟩ | rfl)
            · exact ⟨a1, by omega⟩
            · exact ⟨hi1, by omega⟩
          · rintro ⟨a1, a2⟩
            by_cases e : rk false mask j = r
            · exact .inr (rk_inj a1 hi1 (by omega))
            · exact .inl ⟨a1, by omega⟩)
      rw [show vals r = vals (rk false mask i) by rw [hi2]]
      exact this
  have hnF : (selF mask (ops.toList.take k)).length = mask.count false := selF_len _ _ hlt
  rw [hnF] at hfin
  let SP : Nat → Prop := fun j => mask[j]? = some false
  let J : (Nat → Prop) → Act → World → Prop := fun D a' W =>
    (Since w0 W ∧ (∀ j, D j → j < k) ∧ ∃ (V : Nat → Value) (q : Nat) (A : Act), (∀ j, mask[j]? = some false → V j = vals (rk false mask j)) ∧ (∀ j, mask[j]? = some true → (D j ↔ rk true mask j < q)) ∧
      FrameIs a ops V D a' ∧ FrameIs a ops V (fun j => mask[j]? = some false ∨ (mask[j]? = some true ∧ rk true mask j < q)) A ∧
      TFlow P ops (Since w0) (fun A W => wpList P ops Q (ops.toList.drop k) A W) ((selT mask (ops.toList.take k)).drop q) A W) ∨
    (∃ m, k ≤ m ∧ m ≤ ops.size ∧ (∀ j, j < ops.size → (D j ↔ j < m)) ∧ wpList P ops Q (ops.toList.drop m) a' W)
  have htl : (selT mask (ops.toList.take k)).length = mask.count true := selT_len _ _ hlt
  -- the first k are done
  have full : ∀ D a' W, J D a' W → (∀ j, j < k → D j) → ∃ m, k ≤ m ∧ m ≤ ops.size ∧ (∀ j, j < ops.size → (D j ↔ j < m)) ∧ wpList P ops Q (ops.toList.drop m) a' W := by
    intro D a' W hJ hD
    rcases hJ with ⟨hW, hDk, V, q, A, hV, hT, hfr, hfA, htf⟩ | hJ
    · have hq : mask.count true ≤ q := by
        by_cases e : mask.count true ≤ q
        · exact e
        · obtain ⟨i, hi1, hi2⟩ := rk_has (b := true) mask q (by omega)
          have := (hT i hi1).1 (hD i (hml' i _ hi1))
          omega
      have enil : (selT mask (ops.toList.take k)).drop q = [] := List.drop_eq_nil_of_le (by omega)
      rw [enil] at htf
      have : a' = A := hfr.ext hfA (fun j hj => by
        constructor
        · intro hj'
          obtain ⟨b, hb⟩ := hmk j (hDk j hj')
          cases b
          · exact .inl hb
          · exact .inr ⟨hb, (hT j hb).1 hj'⟩
        · rintro (hb | ⟨hb, _⟩) <;> exact hD j (hml' j _ hb))
      subst this
      exact ⟨k, Nat.le_refl _, hkn, fun j _ => ⟨fun h => hDk j h, fun h => hD j h⟩, htf⟩
    · exact hJ
  refine wp_region_inv2 hm hok.back J (.inl ⟨since_drew hs0, fun j hj => hj.elim, fun j => vals (rk false mask j), 0, F (mask.count false), fun j _ => rfl, fun j _ => ⟨fun h => h.elim, fun h => by omega⟩, ⟨rfl, rfl, fun j _ _ hj => hj.elim, fun _ _ => rfl⟩, ?_, ?_⟩) ?_ ?_
  · exact (hpure _ (Nat.le_refl _)).same (fun j => by
      constructor
      · rintro ⟨a1, -⟩; exact .inl a1
      · rintro (a1 | ⟨-, a2⟩)
        · exact ⟨a1, rk_lt_count a1⟩
        · omega)
  · rw [List.drop_zero]; exact hfin _ (since_drew hs0)
  · intro D a' W i o hJ ho hDi hdep hcl
    have hin : i < ops.size := (Array.getElem?_eq_some_iff.1 ho).1
    by_cases hik : i < k
    · -- one of the first k
      rcases hJ with ⟨hW, hDk, V, q, A, hV, hT, hfr, hfA, htf⟩ | ⟨m, h1, h2, h3, -⟩
      rotate_left
      · exact absurd ((h3 i hin).2 (by omega)) hDi
      have look : ∀ t ∈ o.looksAt ops, ∀ j oj, j < k → ops[j]? = some oj → oj.dst = some t → D j ∧ j ∈ depsOf o := fun t ht j oj hjk hoj hd => by
        have := hok.looks i o hik ho t ht j oj hjk hoj hd
        exact ⟨hdep j this, this⟩
      have dist : ∀ j oj d, D j → ops[j]? = some oj → o.dst = some d → oj.dst ≠ some d := fun j oj d hj hoj hd hd2 => by
        have := hok.dsts i o hik ho j oj (hDk j hj) hoj d hd hd2
        subst this
        exact hDi hj
      obtain ⟨b, hb⟩ := hmk i hik
      cases b with
      | false =>
        have hsel := selF_rk mask _ i hlt hb
        rw [hget i _ hik ho] at hsel
        obtain ⟨⟨hw, hrun⟩, -⟩ := hst _ _ hsel
        have hr := rk_lt_count hb
        obtain ⟨he, hw'⟩ := agree_exec (ops := ops) (a' := a') (A := F (rk false mask i)) (fun t ht => (hfr.vals2 (v' := V) (fun _ _ _ => rfl)).agree ((hpure _ (Nat.le_of_lt hr)).vals (v' := V) (fun j hj => (hV j hj.1).symm)) t (fun j oj hj hoj hd => by
          have hjk : j < k := hj.elim (fun h => hDk j h) (fun h => hml' j _ h.1)
          obtain ⟨d1, d2⟩ := look t ht j oj hjk hoj hd
          have hjf := chF i o j hb ho d2
          exact ⟨d1, hjf, rk_lt (hok.back i o ho j d2) hjf⟩)) (fun cs b => hok.nosel i o cs b ho)
        rw [if_pos (hw'.trans hw)]
        refine .inl ?_
        unfold Oper.wp
        rw [he, hrun W hW]
        refine .inl ⟨hW, fun j hj => hj.elim (fun h => hDk j h) (fun h => by omega), V, q, A, hV, fun j hj => ?_, ?_, hfA, htf⟩
        · rw [← hT j hj]
          constructor
          · rintro (h | rfl)
            · exact h
            · rw [hb] at hj; cases hj
          · exact .inl
        · have := hfr.put (i := i) ho dist
          rwa [hV i hb] at this
      | true =>
        have hq : rk true mask i = q := by
          have h1 : ¬ rk true mask i < q := fun h => hDi ((hT i hb).2 h)
          by_cases e : rk true mask i = q
          · exact e
          · obtain ⟨j, hj1, hj2⟩ := rk_has (b := true) mask q (by have := rk_lt_count hb; omega)
            have hji : j < i := by
              rcases Nat.lt_trichotomy j i with h | h | h
              · exact h
              · subst h; omega
              · have := rk_lt h hb; omega
            have := anc_ready hcl ho hdep (chT i j hb hj1 hji)
            have := (hT j hj1).1 this
            omega
        have hsel := selT_rk mask _ i hlt hb
        rw [hget i _ hik ho, hq] at hsel
        have hqn : q < (selT mask (ops.toList.take k)).length := (List.getElem?_eq_some_iff.1 hsel).1
        rw [List.drop_eq_getElem_cons hqn, (List.getElem?_eq_some_iff.1 hsel).2] at htf
        obtain ⟨he, hw'⟩ := agree_exec (ops := ops) (a' := a') (A := A) (fun t ht => hfr.agree hfA t (fun j oj hj hoj hd => by
          have hjk : j < k := hj.elim (fun h => hDk j h) (fun h => h.elim (hml' j _) (fun h => hml' j _ h.1))
          obtain ⟨d1, d2⟩ := look t ht j oj hjk hoj hd
          refine ⟨d1, ?_⟩
          obtain ⟨b, hb'⟩ := hmk j hjk
          cases b
          · exact .inl hb'
          · exact .inr ⟨hb', (hT j hb').1 d1⟩)) (fun cs b => hok.nosel i o cs b ho)
        have next : ∀ u W', Since w0 W' → TFlow P ops (Since w0) (fun A W => wpList P ops Q (ops.toList.drop k) A W) ((selT mask (ops.toList.take k)).drop (q + 1)) (A.put o.dst u) W' → J (fun j => D j ∨ j = i) (a'.put o.dst u) W' := by
          intro u W' hS ht
          let V' : Nat → Value := fun j => if j = i then u else V j
          have e1 : ∀ j, j ≠ i → V' j = V j := fun j hj => if_neg hj
          have e2 : V' i = u := if_pos rfl
          refine .inl ⟨hS, fun j hj => hj.elim (fun h => hDk j h) (fun h => by omega), V', q + 1, A.put o.dst u, fun j hj => ?_, fun j hj => ?_, ?_, ?_, ht⟩
          · rw [e1 j (fun e => by subst e; rw [hb] at hj; cases hj)]; exact hV j hj
          · constructor
            · rintro (h | rfl)
              · have := (hT j hj).1 h; omega
              · omega
            · intro h
              by_cases e : rk true mask j = q
              · exact .inr (rk_inj hj hb (by omega))
              · exact .inl ((hT j hj).2 (by omega))
          · have := (hfr.vals2 (v' := V') (fun j _ hj => (e1 j (fun e => by subst e; exact hDi hj)).symm)).put (i := i) ho dist
            rwa [e2] at this
          · have := ((hfA.vals2 (v' := V') (fun j _ hj => (e1 j (fun e => by
              subst e
              rcases hj with hj | ⟨-, hj⟩
              · rw [hb] at hj; cases hj
              · omega)).symm)).put (i := i) ho (fun j oj d hj hoj hd hd2 => by
                have hjk : j < k := hj.elim (hml' j _) (fun h => hml' j _ h.1)
                have := hok.dsts i o hik ho j oj hjk hoj d hd hd2
                subst this
                rcases hj with hj | ⟨-, hj⟩
                · rw [hb] at hj; cases hj
                · omega)).same (E := fun j => mask[j]? = some false ∨ (mask[j]? = some true ∧ rk true mask j < q + 1)) (fun j => by
                constructor
                · rintro ((h | ⟨h, h'⟩) | rfl)
                  · exact .inl h
                  · exact .inr ⟨h, by omega⟩
                  · exact .inr ⟨hb, by omega⟩
                · rintro (h | ⟨h, h'⟩)
                  · exact .inl (.inl h)
                  · by_cases e : rk true mask j = q
                    · exact .inr (rk_inj h hb (by omega))
                    · exact .inl (.inr ⟨h, by omega⟩))
            rwa [e2] at this
        rcases htf with ⟨hw, hrun⟩ | ⟨hw, hrun⟩
        · rw [if_pos (hw'.trans hw)]
          refine .inl ?_
          unfold Oper.wp
          rw [he]
          generalize (execOp A.eval o).run P W = r at hrun ⊢
          cases r with
          | ok nx W' =>
            cases nx with
            | value u => exact next u W' hrun.1 hrun.2
            | enter f args =>
              simp only [Oper.upon]
              exact Calls.mono hrun fun e W'' ⟨u, he', h3, h4⟩ => by subst he'; exact next u W'' h3 h4
            | _ => exact hrun.elim
          | halt x W' => exact hrun.elim
        · rw [if_neg (by rw [hw'.trans hw]; simp)]
          exact next _ _ hW hrun
    · -- the tail
      have hall : ∀ j, j < i → D j := fun j hj => anc_ready hcl ho hdep (hok.tail i (by omega) hin j hj)
      obtain ⟨m, h1, h2, h3, h4⟩ := full D a' W hJ (fun j hj => hall j (by omega))
      have hmi : m = i := by
        by_cases e1 : i < m
        · exact absurd ((h3 i hin).2 e1) hDi
        · by_cases e2 : m < i
          · have := (h3 m (by omega)).1 (hall m e2); omega
          · omega
      subst hmi
      have hdr : ops.toList.drop m = o :: ops.toList.drop (m + 1) := by
        have : m < ops.toList.length := by simpa using hin
        rw [List.drop_eq_getElem_cons this]
        congr 1
        have := (Array.getElem?_eq_some_iff.1 ho).2
        simpa using this
      rw [hdr] at h4
      unfold wpList at h4
      have next : ∀ a W, wpList P ops Q (ops.toList.drop (m + 1)) a W → J (fun j => D j ∨ j = m) a W := fun a W h => .inr ⟨m + 1, by omega, by omega, fun j hj => by
        constructor
        · rintro (h | rfl)
          · have := (h3 j hj).1 h; omega
          · omega
        · intro h
          by_cases e : j = m
          · exact .inr e
          · exact .inl ((h3 j hj).2 (by omega)), h⟩
      split
      · rename_i hw
        rw [if_pos hw] at h4
        exact h4.imp (Oper.wp_mono next) id
      · rename_i hw
        rw [if_neg hw] at h4
        exact next _ _ h4
  · intro D a' W hJ hall
    obtain ⟨m, h1, h2, h3, h4⟩ := full D a' W hJ (fun j hj => hall j (by omega))
    have hmn : m = ops.size := by
      by_cases e : m < ops.size
      · have := (h3 m e).1 (hall m e); omega
      · omega
    subst hmn
    rw [List.drop_eq_nil_of_le (by simp)] at h4
    exact h4
end
end Go.Proofs.Ytbfoefkfcnaimaa
