import Derived.Test.YtaplbmgnfdikdaaFlow2
namespace Go.Proofs.Ytaplbmgnfdikdaa
open Go Go.RowKit
/-! A region that draws its order and makes two variables of a type of two integers: reads, two allocations, two stores. -/
section
variable {P : Program} {ops : Array Oper}
/-- a region by an invariant of what is done -/
theorem inv_main {Q : Exit → Act → World → Prop} (hback : ∀ i o, ops[i]? = some o → ∀ j ∈ depsOf o, j < i) (J : (Nat → Prop) → Act → World → Prop)
    (hstep : ∀ (D : Nat → Prop) a w i o, J D a w → ops[i]? = some o → ¬ D i → (∀ d ∈ depsOf o, D d) → (∀ i o, D i → ops[i]? = some o → ∀ d ∈ depsOf o, D d) →
      if Region.wanted o (yielded ops a.tmps) = true then Oper.wp P o a w (J (fun j => D j ∨ j = i)) Q else J (fun j => D j ∨ j = i) (a.put o.dst undef) w)
    (hend : ∀ (D : Nat → Prop) a w, J D a w → (∀ i, i < ops.size → D i) → Q .normal a w) :
    ∀ (fuel : Nat) (listed : Array Bool) (a : Act) (W : World), listed.size = ops.size → (∀ i o, listed.getD i false = true → ops[i]? = some o → ∀ j ∈ depsOf o, listed.getD j false = true) →
      ((List.range ops.size).filter fun j => !listed.getD j false).length ≤ fuel → J (fun j => listed.getD j false = true) a W → wpAny P .any ops Q fuel listed a W := by
  have least : ∀ (listed : Array Bool), listed.size = ops.size → Region.ready .any ops listed = [] → ∀ m, ∀ j, j ≤ m → j < ops.size → listed.getD j false = true := by
    intro listed hsz hnil m
    induction m using Nat.strongRecOn with
    | ind m ihm =>
      intro j hjm hjs
      refine Classical.byContradiction fun hjn => ?_
      have hjn : listed.getD j false = false := by cases hb : listed.getD j false <;> simp_all
      have hmem : j ∈ Region.ready .any ops listed := mem_ready'.2 ⟨by rw [unlisted (by omega)]; exact hjn, ops[j], Array.getElem?_eq_getElem hjs, fun d hd => by
        have hdj := hback j _ (Array.getElem?_eq_getElem hjs) d hd
        exact ihm d (by omega) d (Nat.le_refl _) (by omega)⟩
      rw [hnil] at hmem
      simp at hmem
  intro fuel
  induction fuel with
  | zero =>
    intro listed a W hsz hcl hfl hJ
    have hall : ∀ j, j < ops.size → listed.getD j false = true := fun j hj => by
      rcases hb : listed.getD j false with _ | _
      · have : 0 < ((List.range ops.size).filter fun j => !listed.getD j false).length := List.length_pos_of_mem (List.mem_filter.2 ⟨List.mem_range.2 hj, by simp [hb]⟩)
        omega
      · rfl
    refine ⟨List.eq_nil_iff_forall_not_mem.2 fun i hi => ?_, hend _ a W hJ hall⟩
    obtain ⟨h0, o, ho, _⟩ := mem_ready'.1 hi
    have hin : i < ops.size := (Array.getElem?_eq_some_iff.1 ho).1
    rw [unlisted (by omega), hall i hin] at h0
    cases h0
  | succ fuel ih =>
    intro listed a W hsz hcl hfl hJ
    refine ⟨fun hnil => hend _ a W hJ fun j hj => least listed hsz hnil j j (Nat.le_refl _) hj, fun i hi => ?_⟩
    obtain ⟨h0, o, ho, hdep⟩ := mem_ready'.1 hi
    have hin : i < ops.size := (Array.getElem?_eq_some_iff.1 ho).1
    rw [unlisted (by omega)] at h0
    have hset : ∀ j, (listed.setIfInBounds i true).getD j false = true ↔ (listed.getD j false = true ∨ j = i) := fun j => by
      by_cases hji : i = j
      · subst hji; simp [hsz, hin]
      · rw [getD_set_ne false hji]
        constructor
        · exact .inl
        · rintro (h | h)
          · exact h
          · exact absurd h.symm hji
    have hD : (fun j => (listed.setIfInBounds i true).getD j false = true) = fun j => listed.getD j false = true ∨ j = i := funext fun j => propext (hset j)
    have next : ∀ a W, J (fun j => listed.getD j false = true ∨ j = i) a W → wpAny P .any ops Q fuel (listed.setIfInBounds i true) a W := fun a W hJ' => by
      refine ih _ a W (by simpa using hsz) (fun i' o' hi' ho' j hj => ?_) ?_ (by rw [hD]; exact hJ')
      · rcases (hset i').1 hi' with h | rfl
        · exact (hset j).2 (.inl (hcl i' o' h ho' j hj))
        · rw [ho] at ho'; cases ho'
          exact (hset j).2 (.inl (hdep j hj))
      · have hlt' := filter_lt (l := List.range ops.size) (p := fun j => !listed.getD j false) (q := fun j => !(listed.setIfInBounds i true).getD j false) (fun x hx => by
          cases hb : listed.getD x false
          · rfl
          · have := (hset x).2 (.inl hb)
            simp only [this] at hx
            cases hx) (List.mem_range.2 hin) (by simp only [h0]; rfl) (by simp only [(hset i).2 (.inr rfl)]; rfl)
        omega
    have := hstep (fun j => listed.getD j false = true) a W i o hJ ho (by rw [h0]; simp) hdep hcl
    unfold wpOp
    simp only [ho]
    split
    · rename_i hw
      rw [if_pos hw] at this
      exact .inl (Oper.wp_mono next this)
    · rename_i hw
      rw [if_neg hw] at this
      exact next _ _ this
theorem wp_region_inv {Q : Exit → Act → World → Prop} {id : Nat} {a : Act} {w : World} (hm : P.follows .mixedOrders = true) (hback : ∀ i o, ops[i]? = some o → ∀ j ∈ depsOf o, j < i) (J : (Nat → Prop) → Act → World → Prop)
    (h0 : J (fun _ => False) a w.drew)
    (hstep : ∀ (D : Nat → Prop) a w i o, J D a w → ops[i]? = some o → ¬ D i → (∀ d ∈ depsOf o, D d) → (∀ i o, D i → ops[i]? = some o → ∀ d ∈ depsOf o, D d) →
      if Region.wanted o (yielded ops a.tmps) = true then Oper.wp P o a w (J (fun j => D j ∨ j = i)) Q else J (fun j => D j ∨ j = i) (a.put o.dst undef) w)
    (hend : ∀ (D : Nat → Prop) a w, J D a w → (∀ i, i < ops.size → D i) → Q .normal a w) : (Code.region id ops true).wp P Q a w := by
  refine wp_region_any hm ?_
  refine inv_main (P := P) (Q := Q) hback J hstep hend ops.size (Array.replicate ops.size false) a w.drew (by simp) (fun i o hi => by rw [rep_false] at hi; cases hi) ?_ ?_
  · have := List.length_filter_le (fun j => !(Array.replicate ops.size false).getD j false) (List.range ops.size)
    simpa using this
  · have : (fun j => (Array.replicate ops.size false).getD j false = true) = fun _ => False := funext fun j => propext ⟨(fun h => by rw [rep_false] at h; cases h), fun h => h.elim⟩
    rw [this]
    exact h0
/-- reads, in the order of the text -/
def PFlow (P : Program) (ops : Array Oper) (w0 : World) (fin : Act → Prop) : List Oper → Act → Prop
  | [], A => fin A
  | o :: rest, A => ∃ v, (Region.wanted o (yielded ops A.tmps) = true ∧ ∀ W, Since w0 W → (execOp A.eval o).run P W = .ok (.value v) W) ∧ PFlow P ops w0 fin rest (A.put o.dst v)
theorem pflow_val {w0 : World} {fin : Act → Prop} {o : Oper} {rest : List Oper} {A : Act} {v : Value} (hw : Region.wanted o (yielded ops A.tmps) = true) (h : ∀ W, Since w0 W → (execOp A.eval o).run P W = .ok (.value v) W)
    (hr : PFlow P ops w0 fin rest (A.put o.dst v)) : PFlow P ops w0 fin (o :: rest) A := ⟨v, ⟨hw, h⟩, hr⟩
theorem pflow_frames {w0 : World} {fin : Act → Prop} (l : List Oper) : ∀ (A : Act), PFlow P ops w0 fin l A →
    ∃ (vals : Nat → Value) (F : Nat → Act), F 0 = A ∧ fin (F l.length) ∧ ∀ i o, l[i]? = some o → (Region.wanted o (yielded ops (F i).tmps) = true ∧ ∀ W, Since w0 W → (execOp (F i).eval o).run P W = .ok (.value (vals i)) W) ∧ F (i + 1) = (F i).put o.dst (vals i) := by
  induction l with
  | nil => intro A h; exact ⟨fun _ => undef, fun _ => A, rfl, h, fun i o h => by simp at h⟩
  | cons o l ih =>
    intro A h
    obtain ⟨v, hs, hf⟩ := h
    obtain ⟨vals, F, h0, hfin, hstep⟩ := ih _ hf
    refine ⟨fun i => match i with | 0 => v | i + 1 => vals i, fun i => match i with | 0 => A | i + 1 => F i, rfl, hfin, ?_⟩
    intro i o' hi
    cases i with
    | zero => simp at hi; subst hi; exact ⟨hs, h0⟩
    | succ i => exact hstep i o' (by simpa using hi)
theorem FrameIs.vals {a a' : Act} {v v' : Nat → Value} {D : Nat → Prop} (h : FrameIs a ops v D a') (e : ∀ j, D j → v j = v' j) : FrameIs a ops v' D a' :=
  ⟨h.defers, h.size, fun j o t hj ho hd hl => by rw [← e j hj]; exact h.on j o t hj ho hd hl, h.off⟩
theorem FrameIs.same {a a' : Act} {v : Nat → Value} {D E : Nat → Prop} (h : FrameIs a ops v D a') (e : ∀ j, D j ↔ E j) : FrameIs a ops v E a' := by
  have : D = E := funext fun j => propext (e j)
  rw [← this]; exact h
/-- a variable of two integers -/
def E2 (W : World) (T : TypeId) (b : Nat) (x y : Int) : Prop := W.heap[b]? = some (.cells #[.int .i64 x, .int .i64 y] T)
theorem E2.cells {W : World} {T : TypeId} {b : Nat} {x y : Int} (h : E2 W T b x y) : W.cell? ⟨b, 0, none⟩ = some (.int .i64 x) ∧ W.cell? ⟨b, 1, none⟩ = some (.int .i64 y) ∧ W.frozen? ⟨b, 0, none⟩ = false ∧ W.frozen? ⟨b, 1, none⟩ = false := by
  unfold E2 at h
  simp [World.cell?, World.frozen?, h]
theorem E2.lt {W : World} {T : TypeId} {b : Nat} {x y : Int} (h : E2 W T b x y) : b < W.heap.size := (Array.getElem?_eq_some_iff.1 h).1
theorem E2.alloc {W : World} {T : TypeId} {b : Nat} {x y : Int} (h : E2 W T b x y) (o : Obj) : E2 (W.alloc o) T b x y := by
  have := h.lt
  unfold E2 at *
  rw [← h]
  show (W.heap.push o)[b]? = _
  rw [Array.getElem?_push, if_neg (by omega)]
theorem E2.other {W : World} {T : TypeId} {b b' : Nat} {x y : Int} (h : E2 W T b x y) (hb : b ≠ b') (i : Nat) (u : Value) : E2 (W.setCell ⟨b', i, none⟩ u) T b x y := (Below.heap_setCell W _ u b hb).trans h
theorem E2.set {W : World} {T : TypeId} {b : Nat} {x y : Int} (h : E2 W T b x y) (x' y' : Int) : E2 ((W.setCell ⟨b, 0, none⟩ (.int .i64 x')).setCell ⟨b, 1, none⟩ (.int .i64 y')) T b x' y' := by
  unfold E2 at *
  simp [World.setCell, Array.getElem?_modify, h]
theorem E2.new (W : World) (T : TypeId) (x y : Int) : E2 (W.alloc (.cells #[.int .i64 x, .int .i64 y] T)) T W.heap.size x y := by
  show (W.heap.push _)[W.heap.size]? = _
  rw [Array.getElem?_push_size]
def ptr (b : Nat) : Value := .pointer (some ⟨b, 0, none⟩)
theorem wp_region_two {Q : Exit → Act → World → Prop} {rid : Nat} {a : Act} {w w0 : World} (k d1 d2 x1 x2 : Nat) (T : TypeId) (u1 u2 u3 u4 : Int) (hm : P.follows .mixedOrders = true) (hf : flowB ops (k + 4) = true) (hsz : ops.size = k + 4) (hs0 : Since w0 w)
    (s1 : ∃ ty pos af, ops[k]? = some ⟨some d1, .alloc T, ty, pos, af, none⟩) (s2 : ∃ ty pos af, ops[k + 1]? = some ⟨some d2, .alloc T, ty, pos, af, none⟩)
    (s3 : ∃ ty pos af, ops[k + 2]? = some ⟨none, .store T (.tmp d1) (.tmp x1), ty, pos, af, none⟩) (s4 : ∃ ty pos af, ops[k + 3]? = some ⟨none, .store T (.tmp d2) (.tmp x2), ty, pos, af, none⟩)
    (hxd : x1 ≠ d1 ∧ x1 ≠ d2 ∧ x2 ≠ d1 ∧ x2 ≠ d2) (hd1 : d1 < a.tmps.size) (hd2 : d2 < a.tmps.size)
    (hz : ∀ (ev : Operand → Value) (d : Option Tmp) (ty : TypeId) (pos : String) (af : Array Edge) (W : World), (execOp ev ⟨d, .alloc T, ty, pos, af, none⟩).run P W = .ok (.value (ptr W.heap.size)) (W.alloc (.cells #[.int .i64 0, .int .i64 0] T)))
    (hst : ∀ (ev : Operand → Value) (ty : TypeId) (pos : String) (af : Array Edge) (W : World) (p x : Operand) (b : Nat) (q1 q2 : Value) (y1 y2 : Int), ev p = ptr b → ev x = .agg #[.int .i64 y1, .int .i64 y2] → W.cell? ⟨b, 0, none⟩ = some q1 → W.cell? ⟨b, 1, none⟩ = some q2 → W.frozen? ⟨b, 0, none⟩ = false → W.frozen? ⟨b, 1, none⟩ = false →
      (execOp ev ⟨none, .store T p x, ty, pos, af, none⟩).run P W = .ok .skip ((W.setCell ⟨b, 0, none⟩ (.int .i64 y1)).setCell ⟨b, 1, none⟩ (.int .i64 y2)))
    (h : PFlow P ops w0 (fun A => A.eval (.tmp x1) = .agg #[.int .i64 u1, .int .i64 u2] ∧ A.eval (.tmp x2) = .agg #[.int .i64 u3, .int .i64 u4] ∧
      ∀ b1 b2 W, Since w0 W → E2 W T b1 u1 u2 → E2 W T b2 u3 u4 → Q .normal ((A.put (some d1) (ptr b1)).put (some d2) (ptr b2)) W) (ops.toList.take k) a) : (Code.region rid ops true).wp P Q a w := by
  have hok := flow_ok hf
  obtain ⟨vals, F, h0, ⟨hx1, hx2, hfin⟩, hst'⟩ := pflow_frames _ a h
  have hlen : (ops.toList.take k).length = k := by simp; omega
  rw [hlen] at hx1 hx2 hfin
  have hget : ∀ i o, i < k → ops[i]? = some o → (ops.toList.take k)[i]? = some o := fun i o hi ho => by
    rw [List.getElem?_take, if_pos hi]; simpa using ho
  obtain ⟨ty1, ps1, af1, s1⟩ := s1
  obtain ⟨ty2, ps2, af2, s2⟩ := s2
  obtain ⟨ty3, ps3, af3, s3⟩ := s3
  obtain ⟨ty4, ps4, af4, s4⟩ := s4
  have hF0 : ∀ i, i ≤ k → FrameIs a ops vals (fun j => j < i) (F i) := by
    intro i
    induction i with
    | zero => intro _; rw [h0]; exact ⟨rfl, rfl, fun j _ _ hj => absurd hj (by omega), fun _ _ => rfl⟩
    | succ i ih =>
      intro hi
      have hi' : i < ops.size := by omega
      have ho : ops[i]? = some ops[i] := Array.getElem?_eq_getElem hi'
      rw [(hst' i _ (hget i _ (by omega) ho)).2]
      have := (ih (by omega)).put ho (fun j oj d hj hoj hd hd2 => by
        have := hok.dsts i _ (by omega) ho j oj (by omega) hoj d hd hd2
        omega)
      exact ⟨this.defers, this.size, fun j oj t hj => this.on j oj t (by omega), fun t ht => this.off t (fun j oj hj => ht j oj (by omega))⟩
  let V : Nat → Nat → Nat → Value := fun b1 b2 j => if j = k then ptr b1 else if j = k + 1 then ptr b2 else vals j
  have hF : ∀ b1 b2 i, i ≤ k → FrameIs a ops (V b1 b2) (fun j => j < i) (F i) := fun b1 b2 i hi => (hF0 i hi).vals (fun j hj => by show vals j = if j = k then _ else if j = k + 1 then _ else vals j; rw [if_neg (by omega), if_neg (by omega)])
  refine wp_region_inv hm hok.back (fun D a' W => Since w0 W ∧ ∃ b1 b2, FrameIs a ops (V b1 b2) D a' ∧ (D k → w0.heap.size ≤ b1 ∧ (D (k + 2) → E2 W T b1 u1 u2) ∧ (¬ D (k + 2) → E2 W T b1 0 0)) ∧ (D (k + 1) → w0.heap.size ≤ b2 ∧ (D (k + 3) → E2 W T b2 u3 u4) ∧ (¬ D (k + 3) → E2 W T b2 0 0)) ∧ (D k → D (k + 1) → b1 ≠ b2)) ?_ ?_ ?_
  · exact ⟨since_drew hs0, 0, 0, ⟨rfl, rfl, fun j _ _ hj => hj.elim, fun _ _ => rfl⟩, fun h => h.elim, fun h => h.elim, fun h => h.elim⟩
  · rintro D a' W i o ⟨hW, b1, b2, hfr, hB1, hB2, hne⟩ ho hDi hdep hcl
    have hin : i < k + 4 := by have := (Array.getElem?_eq_some_iff.1 ho).1; omega
    -- what the operation looks at
    have look : ∀ t ∈ o.looksAt ops, ∀ j oj, ops[j]? = some oj → oj.dst = some t → D j ∧ j < i := fun t ht j oj hoj hd => by
      have hjn : j < k + 4 := by have := (Array.getElem?_eq_some_iff.1 hoj).1; omega
      have := hok.looks i o hin ho t ht j oj hjn hoj hd
      exact ⟨hdep j this, hok.back i o ho j this⟩
    have dist : ∀ j oj d, D j → ops[j]? = some oj → o.dst = some d → oj.dst ≠ some d := fun j oj d hj hoj hd hd2 => by
      have hjn : j < k + 4 := by have := (Array.getElem?_eq_some_iff.1 hoj).1; omega
      have := hok.dsts i o hin ho j oj hjn hoj d hd hd2
      subst this
      exact hDi hj
    rcases Nat.lt_or_ge i k with hik | hik
    · obtain ⟨⟨hw, hrun⟩, -⟩ := hst' i o (hget i o hik ho)
      have hag : ∀ t ∈ o.looksAt ops, a'.tmps[t]? = (F i).tmps[t]? := fun t ht => hfr.agree (hF b1 b2 i (by omega)) t (fun j oj hj hoj hd => look t ht j oj hoj hd)
      have he : execOp a'.eval o = execOp (F i).eval o := execOp_congr o (fun cs b => hok.nosel i o cs b ho) (fun x hx => by
        cases x with
        | tmp t =>
          have := hag t (List.mem_append_left _ (List.mem_filterMap.2 ⟨.tmp t, by simpa using hx, rfl⟩))
          simp [Act.eval, this]
        | _ => rfl)
      have hw' : Region.wanted o (yielded ops a'.tmps) = true := by
        rw [← hw]
        unfold Region.wanted
        cases hg : o.guard with
        | none => rfl
        | some gw =>
          obtain ⟨g, want⟩ := gw
          have : yielded ops a'.tmps g = yielded ops (F i).tmps g := by
            unfold yielded
            cases ht : (ops[g]?).bind (·.dst) with
            | none => rfl
            | some t =>
              have := hag t (by simp [Oper.looksAt, hg, ht])
              simp [this]
          simp only [this]
      rw [if_pos hw']
      unfold Oper.wp
      rw [he, hrun W hW]
      refine ⟨hW, b1, b2, ?_, fun h => ?_, fun h => ?_, fun h h' => hne (h.elim (fun h => h) fun e => by omega) (h'.elim (fun h => h) fun e => by omega)⟩
      · have := hfr.put (i := i) ho dist
        rwa [show V b1 b2 i = vals i by show (if i = k then _ else if i = k + 1 then _ else vals i) = _; rw [if_neg (by omega), if_neg (by omega)]] at this
      · obtain ⟨q1, q2, q3⟩ := hB1 (h.elim (fun h => h) fun e => by omega)
        exact ⟨q1, fun h => q2 (h.elim (fun h => h) fun e => by omega), fun h => q3 fun hh => h (.inl hh)⟩
      · obtain ⟨q1, q2, q3⟩ := hB2 (h.elim (fun h => h) fun e => by omega)
        exact ⟨q1, fun h => q2 (h.elim (fun h => h) fun e => by omega), fun h => q3 fun hh => h (.inl hh)⟩
    · obtain rfl | rfl | rfl | rfl : i = k ∨ i = k + 1 ∨ i = k + 2 ∨ i = k + 3 := by omega
      · rw [s1] at ho; cases ho
        rw [if_pos (show Region.wanted (⟨some d1, .alloc T, ty1, ps1, af1, none⟩ : Oper) (yielded ops a'.tmps) = true from rfl)]
        unfold Oper.wp
        rw [hz]
        have hn2 : ¬ D (i + 2) := fun h => hDi (hcl _ _ h s3 _ (hok.looks (i + 2) _ (by omega) s3 d1 (by simp [Oper.looksAt, Op.operands]) i _ (by omega) s1 rfl))
        refine ⟨since_alloc _ hW, W.heap.size, b2, ?_, fun _ => ⟨hW.size, fun h => (hn2 (h.elim (fun h => h) fun e => by omega)).elim, fun _ => E2.new W T 0 0⟩, fun h => ?_, fun _ h e => ?_⟩
        · have := (hfr.vals (v' := V W.heap.size b2) (fun j hj => by show (if j = i then _ else if j = i + 1 then _ else vals j) = if j = i then _ else if j = i + 1 then _ else vals j; rw [if_neg (c := j = i) (fun e => hDi (by rw [← e]; exact hj)), if_neg (c := j = i) (fun e => hDi (by rw [← e]; exact hj))])).put (i := i) s1 dist
          rwa [show V W.heap.size b2 i = ptr W.heap.size by show (if i = i then _ else _) = _; rw [if_pos rfl]] at this
        · obtain ⟨q1, q2, q3⟩ := hB2 (h.elim (fun h => h) fun e => by omega)
          exact ⟨q1, fun h => (q2 (h.elim (fun h => h) fun e => by omega)).alloc _, fun h => (q3 fun hh => h (.inl hh)).alloc _⟩
        · obtain ⟨q1, q2, q3⟩ := hB2 (h.elim (fun h => h) fun e => by omega)
          by_cases h3 : D (i + 3)
          · have := (q2 h3).lt; omega
          · have := (q3 h3).lt; omega
      · rw [s2] at ho; cases ho
        rw [if_pos (show Region.wanted (⟨some d2, .alloc T, ty2, ps2, af2, none⟩ : Oper) (yielded ops a'.tmps) = true from rfl)]
        unfold Oper.wp
        rw [hz]
        have hn3 : ¬ D (k + 3) := fun h => hDi (hcl _ _ h s4 _ (hok.looks (k + 3) _ (by omega) s4 d2 (by simp [Oper.looksAt, Op.operands]) (k + 1) _ (by omega) s2 rfl))
        refine ⟨since_alloc _ hW, b1, W.heap.size, ?_, fun h => ?_, fun _ => ⟨hW.size, fun h => (hn3 (h.elim (fun h => h) fun e => by omega)).elim, fun _ => E2.new W T 0 0⟩, fun h _ e => ?_⟩
        · have := (hfr.vals (v' := V b1 W.heap.size) (fun j hj => by show (if j = k then _ else if j = k + 1 then _ else vals j) = if j = k then _ else if j = k + 1 then _ else vals j; rw [if_neg (c := j = k + 1) (fun e => hDi (by rw [← e]; exact hj)), if_neg (c := j = k + 1) (fun e => hDi (by rw [← e]; exact hj))])).put (i := k + 1) s2 dist
          rwa [show V b1 W.heap.size (k + 1) = ptr W.heap.size by show (if k + 1 = k then _ else if k + 1 = k + 1 then _ else _) = _; rw [if_neg (by omega), if_pos rfl]] at this
        · obtain ⟨q1, q2, q3⟩ := hB1 (h.elim (fun h => h) fun e => by omega)
          exact ⟨q1, fun h => (q2 (h.elim (fun h => h) fun e => by omega)).alloc _, fun h => (q3 fun hh => h (.inl hh)).alloc _⟩
        · obtain ⟨q1, q2, q3⟩ := hB1 (h.elim (fun h => h) fun e => by omega)
          by_cases h3 : D (k + 2)
          · have := (q2 h3).lt; omega
          · have := (q3 h3).lt; omega
      · rw [s3] at ho; cases ho
        rw [if_pos (show Region.wanted (⟨none, .store T (.tmp d1) (.tmp x1), ty3, ps3, af3, none⟩ : Oper) (yielded ops a'.tmps) = true from rfl)]
        have hDk : D k := hdep k (hok.looks (k + 2) _ (by omega) s3 d1 (by simp [Oper.looksAt, Op.operands]) k _ (by omega) s1 rfl)
        obtain ⟨q1, q2, q3⟩ := hB1 hDk
        have q := q3 hDi
        obtain ⟨c1, c2, c3, c4⟩ := q.cells
        have e1 : a'.eval (.tmp d1) = ptr b1 := by
          have := hfr.on k _ d1 hDk s1 rfl hd1
          simp only [Act.eval, Array.getD_eq_getD_getElem?, this, Option.getD_some]
          show (if k = k then ptr b1 else _) = _
          rw [if_pos rfl]
        have e2 : a'.eval (.tmp x1) = .agg #[.int .i64 u1, .int .i64 u2] := by
          rw [← hx1]
          have := hfr.agree (hF b1 b2 k (Nat.le_refl _)) x1 (fun j oj hj hoj hd => ⟨(look x1 (by simp [Oper.looksAt, Op.operands]) j oj hoj hd).1, by
            have hj' := (look x1 (by simp [Oper.looksAt, Op.operands]) j oj hoj hd).2
            have hj3 : j < k + 2 := hj'
            rcases Nat.lt_or_ge j k with hh | hh
            · exact hh
            · exfalso
              obtain rfl | rfl : j = k ∨ j = k + 1 := by omega
              · rw [s1] at hoj; cases hoj
                exact hxd.1 (Option.some.inj hd).symm
              · rw [s2] at hoj; cases hoj
                exact hxd.2.1 (Option.some.inj hd).symm⟩)
          simp [Act.eval, this]
        unfold Oper.wp
        rw [hst a'.eval _ _ _ W _ _ b1 _ _ u1 u2 e1 e2 c1 c2 c3 c4]
        refine ⟨Below.setCell (Below.setCell hW q1 _) q1 _, b1, b2, ?_, fun _ => ⟨q1, fun _ => q.set u1 u2, fun h => (h (.inr rfl)).elim⟩, fun h => ?_, fun _ h => hne hDk (h.elim (fun h => h) fun e => by omega)⟩
        · exact hfr.put (i := k + 2) s3 dist
        · obtain ⟨p1, p2, p3⟩ := hB2 (h.elim (fun h => h) fun e => by omega)
          have hb := hne hDk (h.elim (fun h => h) fun e => by omega)
          exact ⟨p1, fun h => ((p2 (h.elim (fun h => h) fun e => by omega)).other (Ne.symm hb) _ _).other (Ne.symm hb) _ _, fun h => ((p3 fun hh => h (.inl hh)).other (Ne.symm hb) _ _).other (Ne.symm hb) _ _⟩
      · rw [s4] at ho; cases ho
        rw [if_pos (show Region.wanted (⟨none, .store T (.tmp d2) (.tmp x2), ty4, ps4, af4, none⟩ : Oper) (yielded ops a'.tmps) = true from rfl)]
        have hDk : D (k + 1) := hdep (k + 1) (hok.looks (k + 3) _ (by omega) s4 d2 (by simp [Oper.looksAt, Op.operands]) (k + 1) _ (by omega) s2 rfl)
        obtain ⟨q1, q2, q3⟩ := hB2 hDk
        have q := q3 hDi
        obtain ⟨c1, c2, c3, c4⟩ := q.cells
        have e1 : a'.eval (.tmp d2) = ptr b2 := by
          have := hfr.on (k + 1) _ d2 hDk s2 rfl hd2
          simp only [Act.eval, Array.getD_eq_getD_getElem?, this, Option.getD_some]
          show (if k + 1 = k then _ else if k + 1 = k + 1 then ptr b2 else _) = _
          rw [if_neg (by omega), if_pos rfl]
        have e2 : a'.eval (.tmp x2) = .agg #[.int .i64 u3, .int .i64 u4] := by
          rw [← hx2]
          have := hfr.agree (hF b1 b2 k (Nat.le_refl _)) x2 (fun j oj hj hoj hd => ⟨(look x2 (by simp [Oper.looksAt, Op.operands]) j oj hoj hd).1, by
            have hj' := (look x2 (by simp [Oper.looksAt, Op.operands]) j oj hoj hd).2
            have hj3 : j < k + 3 := hj'
            rcases Nat.lt_or_ge j k with hh | hh
            · exact hh
            · exfalso
              obtain rfl | rfl | rfl : j = k ∨ j = k + 1 ∨ j = k + 2 := by omega
              · rw [s1] at hoj; cases hoj
                exact hxd.2.2.1 (Option.some.inj hd).symm
              · rw [s2] at hoj; cases hoj
                exact hxd.2.2.2 (Option.some.inj hd).symm
              · rw [s3] at hoj; cases hoj; cases hd⟩)
          simp [Act.eval, this]
        unfold Oper.wp
        rw [hst a'.eval _ _ _ W _ _ b2 _ _ u3 u4 e1 e2 c1 c2 c3 c4]
        refine ⟨Below.setCell (Below.setCell hW q1 _) q1 _, b1, b2, ?_, fun h => ?_, fun _ => ⟨q1, fun _ => q.set u3 u4, fun h => (h (.inr rfl)).elim⟩, fun h _ => hne (h.elim (fun h => h) fun e => by omega) hDk⟩
        · exact hfr.put (i := k + 3) s4 dist
        · obtain ⟨p1, p2, p3⟩ := hB1 (h.elim (fun h => h) fun e => by omega)
          have hb := hne (h.elim (fun h => h) fun e => by omega) hDk
          exact ⟨p1, fun h => ((p2 (h.elim (fun h => h) fun e => by omega)).other hb _ _).other hb _ _, fun h => ((p3 fun hh => h (.inl hh)).other hb _ _).other hb _ _⟩
  · rintro D a' W ⟨hW, b1, b2, hfr, hB1, hB2, hne⟩ hall
    have dst1 : ∀ i o, i < k + 4 → ops[i]? = some o → ∀ j oj d, j < i → ops[j]? = some oj → o.dst = some d → oj.dst ≠ some d := fun i o hi ho j oj d hj hoj hd hd2 => by
      have := hok.dsts i o hi ho j oj (by omega) hoj d hd hd2
      omega
    have f1 := ((hF b1 b2 k (Nat.le_refl _)).put (i := k) s1 (fun j oj d hj hoj => dst1 k _ (by omega) s1 j oj d hj hoj)).same (E := fun j => j < k + 1) (fun j => by show (j < k ∨ j = k) ↔ j < k + 1; omega)
    have f2 := (f1.put (i := k + 1) s2 (fun j oj d hj hoj => dst1 (k + 1) _ (by omega) s2 j oj d hj hoj)).same (E := fun j => j < k + 2) (fun j => by show (j < k + 1 ∨ j = k + 1) ↔ j < k + 2; omega)
    have f3 := (f2.put (i := k + 2) s3 (fun j oj d hj hoj => dst1 (k + 2) _ (by omega) s3 j oj d hj hoj)).same (E := fun j => j < k + 3) (fun j => by show (j < k + 2 ∨ j = k + 2) ↔ j < k + 3; omega)
    have f4 := (f3.put (i := k + 3) s4 (fun j oj d hj hoj => dst1 (k + 3) _ (by omega) s4 j oj d hj hoj)).same (E := fun j => j < k + 4) (fun j => by show (j < k + 3 ∨ j = k + 3) ↔ j < k + 4; omega)
    have e := hfr.ext f4 (fun j hj => ⟨fun _ => by omega, fun _ => hall j hj⟩)
    rw [e]
    have v1 : V b1 b2 k = ptr b1 := by show (if k = k then _ else _) = _; rw [if_pos rfl]
    have v2 : V b1 b2 (k + 1) = ptr b2 := by show (if k + 1 = k then _ else if k + 1 = k + 1 then _ else _) = _; rw [if_neg (by omega), if_pos rfl]
    rw [v1, v2]
    exact hfin b1 b2 W hW ((hB1 (hall k (by omega))).2.1 (hall (k + 2) (by omega))) ((hB2 (hall (k + 1) (by omega))).2.1 (hall (k + 3) (by omega)))
end
end Go.Proofs.Ytaplbmgnfdikdaa
