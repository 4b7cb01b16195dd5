/- Parts of the proof: walks of functions and plain laws. -/
import Derived.Test.YtfkmkpamdlhbgaaGreatP6
import Derived.Test.YtfkmkpamdlhbgaaGreatP8
import Derived.Test.YtfkmkpamdlhbgaaGreatP4
import Derived.Test.YtfkmkpamdlhbgaaGreatP5
import Derived.Test.YtfkmkpamdlhbgaaGreatP0
import Derived.LoopN
import Derived.RangeFuncNested
import Derived.RangeFuncBound
import Derived.RangeFuncCalls
import Derived.RangeFuncLeaves
import Derived.RangeFuncBox
import Derived.Shelf.Abstract
import Derived.Shelf.RegionOpen
import Derived.OwnWalkIn
import Derived.TacticsInMore
import Derived.LoopNIn
import Derived.LoopIn
import Derived.Test.YtfkmkpamdlhbgaaGreatP1
import Derived.Test.YtfkmkpamdlhbgaaGreatP7
namespace Go.Proofs.YtfkmkpamdlhbgaaGreat
open Go.RowKit
/-! the forest test of a network -/
def edE (n : Net) : List (Nat × Nat) := (edgesB n).map fun e => (e.1.toNat, e.2.2.1.toNat)
/-- port i of v leads to f -/
def PortAt (n : Net) (v i : Nat) (f : Int × Int) : Prop := (n.ends.getD v [])[i]? = some f
theorem port_in {n : Net} (hn : netOk n = true) {v i : Nat} {f : Int × Int} (h : PortAt n v i f) : v < n.ends.length ∧ 0 ≤ f.1 ∧ f.1 < n.ends.length ∧ 0 ≤ f.2 ∧ PortAt n f.1.toNat f.2.toNat ((v : Int), (i : Int)) := by
  have hv : v < n.ends.length := by
    rcases Nat.lt_or_ge v n.ends.length with h1 | h1
    · exact h1
    · unfold PortAt at h
      rw [List.getD_eq_getElem?_getD, List.getElem?_eq_none h1] at h
      simp at h
  have hi := lt_of_get h
  have hp : hasPortB n.ends (v : Int) (i : Int) = true := by
    unfold hasPortB
    rw [Bool.and_eq_true, inB_iff, inB_iff]
    simp only [Int.toNat_natCast]
    omega
  have he : endAt n.ends (v : Int) (i : Int) = f := by
    unfold endAt
    simp only [Int.toNat_natCast]
    exact getD_of h
  obtain ⟨h1, h2⟩ := netOk_end hn hp
  rw [he] at h1 h2
  unfold hasPortB at h1
  rw [Bool.and_eq_true, inB_iff, inB_iff] at h1
  refine ⟨hv, h1.1.1, by omega, h1.2.1, ?_⟩
  have hl : f.2.toNat < (n.ends.getD f.1.toNat []).length := by omega
  obtain ⟨y, hy⟩ := getx _ _ hl
  unfold endAt at h2
  rw [getD_of hy] at h2
  unfold PortAt
  rw [hy, h2]
theorem see_port {n : Net} {a b : Nat} : (b : Int) ∈ bsee n (a : Int) ↔ ∃ (i : Nat) (f : Int × Int), PortAt n a i f ∧ f.1 = (b : Int) := by
  rw [see_iff]
  constructor
  · rintro ⟨j, q, h⟩; exact ⟨j, _, h, rfl⟩
  · rintro ⟨i, f, h, e⟩; exact ⟨i, f.2, by rw [← e]; exact h⟩
theorem mem_edges_port {n : Net} {e : Ed} : e ∈ edgesB n ↔ ∃ (v i : Nat) (f : Int × Int), v < n.ends.length ∧ PortAt n v i f ∧ keepE v i f = true ∧ e = ((v : Int), (i : Int), f.1, f.2) := by
  rw [mem_edges]
  constructor
  · rintro ⟨v, i, hv, hi, hk, rfl⟩
    obtain ⟨f, hf⟩ := getx _ _ hi
    rw [getD_of hf] at hk ⊢
    exact ⟨v, i, f, hv, hf, hk, rfl⟩
  · rintro ⟨v, i, f, hv, hp, hk, rfl⟩
    have hp' : (rowOf n v)[i]? = some f := hp
    refine ⟨v, i, hv, lt_of_get hp', ?_, ?_⟩
    · rw [getD_of hp']; exact hk
    · rw [getD_of hp']
theorem keep_or {v i : Nat} {f : Int × Int} (h1 : 0 ≤ f.1) (h2 : 0 ≤ f.2) (h : keepE v i f = false) : keepE f.1.toNat f.2.toNat ((v : Int), (i : Int)) = true ∧ keepE v i f = false := by
  refine ⟨?_, h⟩
  unfold keepE at h ⊢
  simp only [Bool.or_eq_false_iff, Bool.and_eq_false_iff, decide_eq_false_iff_not, beq_eq_false_iff_ne, ne_eq] at h
  simp only [Bool.or_eq_true, Bool.and_eq_true, decide_eq_true_eq, beq_iff_eq]
  rw [Int.toNat_of_nonneg h1, Int.toNat_of_nonneg h2]
  omega
theorem keep_both {v i : Nat} {f : Int × Int} (h1 : 0 ≤ f.1) (h2 : 0 ≤ f.2) (h : keepE v i f = true) (h' : keepE f.1.toNat f.2.toNat ((v : Int), (i : Int)) = true) : f = ((v : Int), (i : Int)) := by
  unfold keepE at h h'
  simp only [Bool.or_eq_true, Bool.and_eq_true, decide_eq_true_eq, beq_iff_eq] at h h'
  rw [Int.toNat_of_nonneg h1, Int.toNat_of_nonneg h2] at h'
  obtain ⟨a, b⟩ := f
  simp only at h h' h1 h2
  rw [Prod.mk.injEq]
  omega
/-- the edge list and the network lead to the same nodes; both without some edges -/
theorem con_of {n : Net} (hn : netOk n = true) {F : List Ed} (keep : Nat → Nat → Bool) (hF : ∀ e, e ∈ F ↔ e ∈ edgesB n ∧ keep e.1.toNat e.2.1.toNat = true)
    (hk : ∀ v i f, PortAt n v i f → keep v i = keep f.1.toNat f.2.toNat) {a b : Nat} (R : Nat → Nat → Prop) (hrefl : ∀ a, R a a) (hstep : ∀ {a b c : Nat}, R a b → (∃ i f, PortAt n b i f ∧ keep b i = true ∧ f.1 = (c : Int)) → R a c)
    (hind : ∀ {a b : Nat}, R a b → ∀ (M : Nat → Prop), M a → (∀ b c : Nat, M b → (∃ i f, PortAt n b i f ∧ keep b i = true ∧ f.1 = (c : Int)) → M c) → M b) :
    Con (F.map fun e => (e.1.toNat, e.2.2.1.toNat)) a b ↔ R a b := by
  have one : ∀ {x y : Nat}, (x, y) ∈ (F.map fun e => (e.1.toNat, e.2.2.1.toNat)) ↔ ∃ i f, PortAt n x i f ∧ keep x i = true ∧ f.1 = (y : Int) ∧ keepE x i f = true := by
    intro x y
    rw [List.mem_map]
    constructor
    · rintro ⟨e, he, hxy⟩
      obtain ⟨h1, h2⟩ := (hF e).1 he
      obtain ⟨v, i, f, hv, hp, hke, rfl⟩ := mem_edges_port.1 h1
      simp only [Int.toNat_natCast, Prod.mk.injEq] at hxy h2
      obtain ⟨rfl, rfl⟩ := hxy
      exact ⟨i, f, hp, h2, (Int.toNat_of_nonneg (port_in hn hp).2.1).symm, hke⟩
    · rintro ⟨i, f, hp, h2, hf, hke⟩
      refine ⟨((x : Int), (i : Int), f.1, f.2), (hF _).2 ⟨mem_edges_port.2 ⟨x, i, f, (port_in hn hp).1, hp, hke, rfl⟩, by simpa using h2⟩, ?_⟩
      simp [hf]
  constructor
  · intro h
    induction h with
    | refl => exact hrefl _
    | @step b c _ hs ih =>
      refine hstep ih ?_
      rcases hs with hs | hs
      · obtain ⟨i, f, h1, h2, h3, _⟩ := one.1 hs
        exact ⟨i, f, h1, h2, h3⟩
      · obtain ⟨i, f, h1, h2, h3, _⟩ := one.1 hs
        obtain ⟨g1, g2, g3, g4, g5⟩ := port_in hn h1
        rw [h3, Int.toNat_natCast] at g5
        refine ⟨f.2.toNat, _, g5, ?_, rfl⟩
        have := hk _ _ _ h1
        rw [h3, Int.toNat_natCast] at this
        rw [← this]; exact h2
  · intro h
    refine hind h (fun z => Con _ a z) .refl ?_
    rintro x y hx ⟨i, f, h1, h2, h3⟩
    refine hx.step ?_
    by_cases hke : keepE x i f = true
    · exact .inl (one.2 ⟨i, f, h1, h2, h3, hke⟩)
    · obtain ⟨g1, g2, g3, g4, g5⟩ := port_in hn h1
      have hke2 := (keep_or g2 g4 (by simpa using hke)).1
      have hkk := hk _ _ _ h1
      rw [h3, Int.toNat_natCast] at g5 hke2 hkk
      exact .inr (one.2 ⟨f.2.toNat, _, g5, by rw [← hkk]; exact h2, rfl, hke2⟩)
theorem con_rch {n : Net} (hn : netOk n = true) {a b : Nat} : Con (edE n) a b ↔ Rch n a b := by
  refine con_of hn (F := edgesB n) (fun _ _ => true) (by simp) (by simp) (Rch n) (fun _ => .refl) ?_ ?_
  · rintro a b c h ⟨i, f, h1, _, h3⟩
    exact h.step (see_port.2 ⟨i, f, h1, h3⟩)
  · intro a b h M h0 hM
    induction h with
    | refl => exact h0
    | step _ hs ih =>
      obtain ⟨i, f, h1, h3⟩ := see_port.1 hs
      exact hM _ _ ih ⟨i, f, h1, rfl, h3⟩
theorem edE_inside {n : Net} (hn : netOk n = true) : Inside (edE n) n.ends.length := by
  intro e he
  obtain ⟨x, hx, rfl⟩ := List.mem_map.1 he
  obtain ⟨v, i, f, hv, hp, _, rfl⟩ := mem_edges_port.1 hx
  have := port_in hn hp
  simp only [Int.toNat_natCast]
  omega
def rootsB (n : Net) (k : Nat) : Nat := (List.range k).countP fun v => leastB n v == v
open Classical in
theorem roots_parts {n : Net} (hn : netOk n = true) : rootsB n n.ends.length = parts (edE n) n.ends.length := by
  unfold rootsB parts
  apply List.countP_congr
  intro v hv
  have hv' := List.mem_range.1 hv
  rw [decide_eq_true_eq]
  obtain ⟨l1, l2, l3⟩ := least_spec hn hv'
  constructor
  · intro h u hu
    have := l3 u ((con_rch hn).1 hu)
    simp only [beq_iff_eq] at h
    omega
  · intro h
    have h1 := h _ ((con_rch hn).2 l1)
    have h2 := least_le hn hv'
    simp only [beq_iff_eq]
    omega
theorem edges_nodup (n : Net) : (edgesB n).Nodup := by
  unfold edgesB edgesTo
  unfold List.Nodup
  rw [List.pairwise_flatMap]
  have one : ∀ v es k e, e ∈ erow v es k → e.1 = (v : Int) := by
    intro v es k e he
    unfold erow at he
    obtain ⟨j, _, hj⟩ := List.mem_flatMap.1 he
    unfold eone at hj
    split at hj
    · rw [List.mem_singleton.1 hj]
    · simp at hj
  constructor
  · intro v _
    unfold erow
    rw [List.pairwise_flatMap]
    constructor
    · intro j _
      unfold eone
      split <;> simp
    · refine List.Pairwise.imp ?_ (List.pairwise_lt_range (n := (rowOf n v).length))
      intro i j hij x hx y hy e
      subst e
      unfold eone at hx hy
      split at hx
      · split at hy
        · have a := List.mem_singleton.1 hx
          have b := List.mem_singleton.1 hy
          rw [a] at b
          simp only [Prod.mk.injEq] at b
          omega
        · simp at hy
      · simp at hx
  · refine List.Pairwise.imp ?_ (List.pairwise_lt_range (n := n.ends.length))
    intro u v huv x hx y hy e
    subst e
    have a := one _ _ _ _ hx
    have b := one _ _ _ _ hy
    omega
/-- a network without the ports that are not kept -/
def cntK (keep : Nat → Nat → Bool) (v k : Nat) : Nat := ((List.range k).filter (keep v)).length
def cutRowU (n : Net) (keep : Nat → Nat → Bool) (v k : Nat) : List (Int × Int) := ((List.range k).filter (keep v)).map fun i => (((rowOf n v).getD i (0, 0)).1, ((cntK keep ((rowOf n v).getD i (0, 0)).1.toNat ((rowOf n v).getD i (0, 0)).2.toNat : Nat) : Int))
def cutRow (n : Net) (keep : Nat → Nat → Bool) (v : Nat) : List (Int × Int) := cutRowU n keep v (rowOf n v).length
def cutB (n : Net) (keep : Nat → Nat → Bool) : Net := { n with ends := (List.range n.ends.length).map (cutRow n keep) }
theorem cntK_succ (keep : Nat → Nat → Bool) (v k : Nat) : cntK keep v (k + 1) = cntK keep v k + (if keep v k then 1 else 0) := by
  unfold cntK
  rw [List.range_succ, List.filter_append, List.length_append]
  cases h : keep v k <;> simp [h]
theorem cutRowU_succ (n : Net) (keep : Nat → Nat → Bool) (v k : Nat) : cutRowU n keep v (k + 1) = cutRowU n keep v k ++ (if keep v k then [(((rowOf n v).getD k (0, 0)).1, ((cntK keep ((rowOf n v).getD k (0, 0)).1.toNat ((rowOf n v).getD k (0, 0)).2.toNat : Nat) : Int))] else []) := by
  unfold cutRowU
  rw [List.range_succ, List.filter_append, List.map_append]
  cases h : keep v k <;> simp [h]
theorem cutRow_len (n : Net) (keep : Nat → Nat → Bool) (v k : Nat) : (cutRowU n keep v k).length = cntK keep v k := by simp [cutRowU, cntK]
theorem cntK_mono (keep : Nat → Nat → Bool) (v : Nat) {j k : Nat} (h : j ≤ k) : cntK keep v j ≤ cntK keep v k := by
  induction k with
  | zero => obtain rfl : j = 0 := by omega
            exact Nat.le_refl _
  | succ k ih =>
    rcases Nat.lt_or_ge k j with h1 | h1
    · obtain rfl : j = k + 1 := by omega
      exact Nat.le_refl _
    · rw [cntK_succ]; have := ih h1; omega
theorem cntK_lt (keep : Nat → Nat → Bool) (v : Nat) {j k : Nat} (h : j < k) (hk : keep v j = true) : cntK keep v j < cntK keep v k := by
  have h1 := cntK_mono keep v (j := j + 1) (k := k) (by omega)
  rw [cntK_succ, hk] at h1
  simp at h1
  omega
theorem cntK_le (keep : Nat → Nat → Bool) (v k : Nat) : cntK keep v k ≤ k := by
  unfold cntK
  have := List.length_filter_le (keep v) (List.range k)
  simpa using this
theorem cutRow_at (n : Net) (keep : Nat → Nat → Bool) (v : Nat) : ∀ (k j : Nat), j < k → keep v j = true → (cutRowU n keep v k)[cntK keep v j]? = some (((rowOf n v).getD j (0, 0)).1, ((cntK keep ((rowOf n v).getD j (0, 0)).1.toNat ((rowOf n v).getD j (0, 0)).2.toNat : Nat) : Int)) := by
  intro k
  induction k with
  | zero => intro j hj; omega
  | succ k ih =>
    intro j hj hk
    rw [cutRowU_succ]
    rcases Nat.lt_or_ge j k with h | h
    · rw [List.getElem?_append_left (by rw [cutRow_len]; exact cntK_lt keep v h hk)]
      exact ih j h hk
    · obtain rfl : j = k := by omega
      rw [List.getElem?_append_right (by rw [cutRow_len]; exact Nat.le_refl _), cutRow_len, hk]
      simp
theorem cutRow_inv (n : Net) (keep : Nat → Nat → Bool) (v : Nat) : ∀ (k m : Nat) (f : Int × Int), (cutRowU n keep v k)[m]? = some f → ∃ j, j < k ∧ keep v j = true ∧ m = cntK keep v j ∧ f = (((rowOf n v).getD j (0, 0)).1, ((cntK keep ((rowOf n v).getD j (0, 0)).1.toNat ((rowOf n v).getD j (0, 0)).2.toNat : Nat) : Int)) := by
  intro k
  induction k with
  | zero => intro m f h; simp [cutRowU] at h
  | succ k ih =>
    intro m f h
    rw [cutRowU_succ] at h
    rcases Nat.lt_or_ge m (cutRowU n keep v k).length with hm | hm
    · rw [List.getElem?_append_left hm] at h
      obtain ⟨j, a, b⟩ := ih m f h
      exact ⟨j, by omega, b⟩
    · rw [List.getElem?_append_right hm] at h
      cases hk : keep v k with
      | false => rw [hk] at h; simp at h
      | true =>
        rw [hk] at h
        simp only [if_true] at h
        have := lt_of_get h
        simp only [List.length_cons, List.length_nil] at this
        rw [cutRow_len] at hm this
        have hm0 : m - cntK keep v k = 0 := by omega
        rw [cutRow_len, hm0] at h
        simp only [List.getElem?_cons_zero, Option.some.injEq] at h
        exact ⟨k, by omega, hk, by omega, h.symm⟩
theorem cut_row (n : Net) (keep : Nat → Nat → Bool) {v : Nat} (hv : v < n.ends.length) : (cutB n keep).ends.getD v [] = cutRow n keep v := by
  rw [List.getD_eq_getElem?_getD]
  simp [cutB, hv]
theorem cut_port {n : Net} (hn : netOk n = true) (keep : Nat → Nat → Bool) {v m : Nat} {g : Int × Int} : PortAt (cutB n keep) v m g ↔ ∃ j f, PortAt n v j f ∧ keep v j = true ∧ m = cntK keep v j ∧ g = (f.1, ((cntK keep f.1.toNat f.2.toNat : Nat) : Int)) := by
  constructor
  · intro h
    have hv : v < n.ends.length := by
      rcases Nat.lt_or_ge v n.ends.length with h1 | h1
      · exact h1
      · unfold PortAt at h
        have hl : (cutB n keep).ends.length = n.ends.length := by simp [cutB]
        rw [List.getD_eq_getElem?_getD, List.getElem?_eq_none (l := (cutB n keep).ends) (by rw [hl]; exact h1)] at h
        simp at h
    unfold PortAt at h
    rw [cut_row n keep hv] at h
    obtain ⟨j, h1, h2, h3, h4⟩ := cutRow_inv n keep v _ m g h
    obtain ⟨f, hf⟩ := getx _ _ h1
    rw [getD_of hf] at h4
    exact ⟨j, f, hf, h2, h3, h4⟩
  · rintro ⟨j, f, hp, hk, rfl, rfl⟩
    have hv := (port_in hn hp).1
    have hp' : (rowOf n v)[j]? = some f := hp
    unfold PortAt
    rw [cut_row n keep hv]
    have := cutRow_at n keep v (rowOf n v).length j (lt_of_get hp') hk
    rw [getD_of hp'] at this
    exact this
theorem cut_ok {n : Net} (hn : netOk n = true) (keep : Nat → Nat → Bool) (hk : ∀ v i f, PortAt n v i f → keep v i = keep f.1.toNat f.2.toNat) : netOk (cutB n keep) = true := by
  have hl : (cutB n keep).ends.length = n.ends.length := by simp [cutB]
  have hn' := hn
  unfold netOk at hn ⊢
  rw [hl]
  simp only [Bool.and_eq_true] at hn ⊢
  refine ⟨hn.1, ?_⟩
  rw [List.all_eq_true]
  intro v hv
  have hv' := List.mem_range.1 hv
  have h0 := List.all_eq_true.1 hn.2 v hv
  unfold rowOkB at h0 ⊢
  rw [cut_row n keep hv']
  simp only [Bool.and_eq_true, decide_eq_true_eq] at h0 ⊢
  constructor
  · unfold cutRow
    rw [cutRow_len]
    have := cntK_le keep v (rowOf n v).length
    have h1 := h0.1
    unfold rowOf at this ⊢
    omega
  · rw [List.all_eq_true]
    intro m hm
    have hm' := List.mem_range.1 hm
    obtain ⟨g, hg⟩ := getx _ _ hm'
    rw [getD_of hg]
    have hpg : PortAt (cutB n keep) v m g := by unfold PortAt; rw [cut_row n keep hv']; exact hg
    obtain ⟨j, f, hp, hkj, rfl, rfl⟩ := (cut_port hn' keep).1 hpg
    obtain ⟨g1, g2, g3, g4, g5⟩ := port_in hn' hp
    have hkf : keep f.1.toNat f.2.toNat = true := by rw [← hk v j f hp]; exact hkj
    have hback : PortAt (cutB n keep) f.1.toNat (cntK keep f.1.toNat f.2.toNat) ((v : Int), ((cntK keep v j : Nat) : Int)) := (cut_port hn' keep).2 ⟨f.2.toNat, _, g5, hkf, rfl, by simp⟩
    have hlt := lt_of_get hback
    unfold endOkB hasPortB eqE
    simp only [Int.toNat_natCast, Bool.and_eq_true, inB_iff, decide_eq_true_eq]
    rw [hl]
    exact ⟨⟨by omega, by omega⟩, getD_of hback⟩
theorem cut_con {n : Net} (hn : netOk n = true) (keep : Nat → Nat → Bool) (hk : ∀ v i f, PortAt n v i f → keep v i = keep f.1.toNat f.2.toNat) {F : List Ed} (hF : ∀ e, e ∈ F ↔ e ∈ edgesB n ∧ keep e.1.toNat e.2.1.toNat = true) {a b : Nat} :
    Con (F.map fun e => (e.1.toNat, e.2.2.1.toNat)) a b ↔ Rch (cutB n keep) a b := by
  refine con_of hn keep hF hk (Rch (cutB n keep)) (fun _ => .refl) ?_ ?_
  · rintro a b c h ⟨i, f, h1, h2, h3⟩
    exact h.step (see_port.2 ⟨_, _, (cut_port hn keep).2 ⟨i, f, h1, h2, rfl, rfl⟩, h3⟩)
  · intro a b h M h0 hM
    induction h with
    | refl => exact h0
    | step _ hs ih =>
      obtain ⟨m, g, h1, h3⟩ := see_port.1 hs
      obtain ⟨i, f, k1, k2, k3, k4⟩ := (cut_port hn keep).1 h1
      exact hM _ _ ih ⟨i, f, k1, k2, by rw [← h3, k4]⟩
/-- all ports but one and its other side -/
def keepX (v i : Nat) (f : Int × Int) (x j : Nat) : Bool := !((x == v && j == i) || (x == f.1.toNat && j == f.2.toNat))
theorem keepX_ok {n : Net} (hn : netOk n = true) {v i : Nat} {f : Int × Int} (hp : PortAt n v i f) : ∀ x j g, PortAt n x j g → keepX v i f x j = keepX v i f g.1.toNat g.2.toNat := by
  intro x j g hg
  obtain ⟨g1, g2, g3, g4, g5⟩ := port_in hn hg
  obtain ⟨f1, f2, f3, f4, f5⟩ := port_in hn hp
  have fact1 : x = v → j = i → g = f := by
    rintro rfl rfl
    unfold PortAt at hg hp
    rw [hg] at hp
    exact Option.some.inj hp
  have fact2 : x = f.1.toNat → j = f.2.toNat → g = ((v : Int), (i : Int)) := by
    rintro rfl rfl
    unfold PortAt at hg f5
    rw [hg] at f5
    exact Option.some.inj f5
  have fact3 : g.1.toNat = v → g.2.toNat = i → x = f.1.toNat ∧ j = f.2.toNat := by
    intro h1 h2
    rw [h1, h2] at g5
    unfold PortAt at g5 hp
    rw [g5] at hp
    have := Option.some.inj hp
    rw [← this]
    simp
  have fact4 : g.1.toNat = f.1.toNat → g.2.toNat = f.2.toNat → x = v ∧ j = i := by
    intro h1 h2
    rw [h1, h2] at g5
    unfold PortAt at g5 f5
    rw [g5] at f5
    have := Option.some.inj f5
    simp only [Prod.mk.injEq] at this
    omega
  unfold keepX
  congr 1
  rw [Bool.eq_iff_iff]
  simp only [Bool.or_eq_true, Bool.and_eq_true, beq_iff_eq]
  constructor
  · rintro (⟨h1, h2⟩ | ⟨h1, h2⟩)
    · rw [fact1 h1 h2]; exact .inr ⟨rfl, rfl⟩
    · rw [fact2 h1 h2]; exact .inl ⟨by simp, by simp⟩
  · rintro (⟨h1, h2⟩ | ⟨h1, h2⟩)
    · exact .inr (fact3 h1 h2)
    · exact .inl (fact4 h1 h2)
/-- no stub and no cycle, seen from the ports and from the numbers -/
theorem forest_net {n : Net} (hn : netOk n = true) : ((edgesB n).length + rootsB n n.ends.length = n.ends.length) ↔ ∀ v i f, PortAt n v i f → ¬ Rch (cutB n (keepX v i f)) v f.1.toNat := by
  have h0 := forest_iff (edE_inside hn)
  have hel : (edE n).length = (edgesB n).length := by simp [edE]
  rw [hel, ← roots_parts hn] at h0
  rw [Nat.add_comm, h0]
  have mem_er : ∀ (k : Nat) (e : Ed), (edgesB n)[k]? = some e → ∀ x, x ∈ (edgesB n).eraseIdx k ↔ x ∈ edgesB n ∧ x ≠ e := by
    intro k e he x
    have hnd := edges_nodup n
    have h1 := mem_erase_idx he
    obtain ⟨hl, hee⟩ := List.getElem?_eq_some_iff.1 he
    have h2 : e ∉ (edgesB n).eraseIdx k := by
      rw [List.eraseIdx_eq_take_drop_succ]
      have e1 : edgesB n = (edgesB n).take k ++ e :: (edgesB n).drop (k + 1) := by rw [← hee, ← List.drop_eq_getElem_cons hl, List.take_append_drop]
      rw [e1] at hnd
      have h3 := List.nodup_append.1 hnd
      have h4 := List.nodup_cons.1 h3.2.1
      intro hm
      rcases List.mem_append.1 hm with hm | hm
      · exact h3.2.2 e hm e (by simp) rfl
      · exact h4.1 hm
    constructor
    · intro hx
      exact ⟨(h1 x).2 (List.mem_cons_of_mem _ hx), fun e2 => h2 (e2 ▸ hx)⟩
    · rintro ⟨hx, hne⟩
      rcases List.mem_cons.1 ((h1 x).1 hx) with e2 | e2
      · exact absurd e2 hne
      · exact e2
  -- an edge of the list and its port
  have key : ∀ (k v i : Nat) (f : Int × Int), PortAt n v i f → keepE v i f = true → (edgesB n)[k]? = some ((v : Int), (i : Int), f.1, f.2) → ∀ a b, Con ((edE n).eraseIdx k) a b ↔ Rch (cutB n (keepX v i f)) a b := by
    intro k v i f hp hke he a b
    have : (edE n).eraseIdx k = ((edgesB n).eraseIdx k).map fun e => (e.1.toNat, e.2.2.1.toNat) := by
      unfold edE
      rw [List.eraseIdx_eq_take_drop_succ, List.eraseIdx_eq_take_drop_succ, List.map_append, List.map_take, List.map_drop]
    rw [this]
    refine cut_con hn _ (keepX_ok hn hp) ?_
    intro e
    rw [mem_er k _ he e]
    apply and_congr_right
    intro hm
    obtain ⟨x, j, g, hx, hpx, hkx, rfl⟩ := mem_edges_port.1 hm
    obtain ⟨f1, f2, f3, f4, f5⟩ := port_in hn hp
    simp only [Int.toNat_natCast, keepX, Bool.not_eq_true', Bool.or_eq_false_iff, Bool.and_eq_false_iff, beq_eq_false_iff_ne, ne_eq, Prod.mk.injEq]
    constructor
    · intro hne
      constructor
      · rcases Nat.lt_trichotomy x v with h | h | h
        · exact .inl (by omega)
        · subst h
          refine .inr fun hji => ?_
          subst hji
          unfold PortAt at hpx hp
          rw [hpx] at hp
          have hgf := Option.some.inj hp
          subst hgf
          exact hne ⟨rfl, rfl, rfl, rfl⟩
        · exact .inl (by omega)
      · by_cases h1 : x = f.1.toNat
        · refine .inr fun h2 => ?_
          subst h1 h2
          unfold PortAt at hpx f5
          rw [hpx] at f5
          have hg := Option.some.inj f5
          subst hg
          have hff := keep_both f2 f4 hke hkx
          subst hff
          simp at hne
        · exact .inl h1
    · rintro ⟨h1, _⟩ ⟨q1, q2, _⟩
      rcases h1 with h1 | h1 <;> omega
  constructor
  · intro hb v i f hp hr
    obtain ⟨f1, f2, f3, f4, f5⟩ := port_in hn hp
    by_cases hke : keepE v i f = true
    · obtain ⟨k, hk⟩ := List.mem_iff_getElem?.1 (mem_edges_port.2 ⟨v, i, f, f1, hp, hke, rfl⟩)
      refine hb k (v, f.1.toNat) ?_ ((key k v i f hp hke hk _ _).2 hr)
      unfold edE
      rw [List.getElem?_map, hk]
      simp
    · have hke2 := (keep_or f2 f4 (by simpa using hke)).1
      obtain ⟨k, hk⟩ := List.mem_iff_getElem?.1 (mem_edges_port.2 ⟨f.1.toNat, f.2.toNat, _, by omega, f5, hke2, rfl⟩)
      refine hb k (f.1.toNat, v) ?_ ((key k _ _ _ f5 hke2 hk _ _).2 ?_)
      · unfold edE
        rw [List.getElem?_map, hk]
        simp only [Option.map_some, Int.toNat_natCast]
      · have hx : keepX f.1.toNat f.2.toNat ((v : Int), (i : Int)) = keepX v i f := by
          funext x j
          unfold keepX
          simp only [Int.toNat_natCast]
          rw [Bool.or_comm]
        rw [hx]
        exact Rch.symm (cut_ok hn _ (keepX_ok hn hp)) (by simpa [cutB] using f1) hr
  · intro hb k e he hc
    unfold edE at he
    rw [List.getElem?_map] at he
    cases hk : (edgesB n)[k]? with
    | none => rw [hk] at he; simp at he
    | some x =>
      rw [hk] at he
      obtain ⟨v, i, f, hv, hp, hke, rfl⟩ := mem_edges_port.1 (List.mem_of_getElem? hk)
      simp only [Option.map_some, Option.some.injEq, Int.toNat_natCast] at he
      subst he
      exact hb v i f hp ((key k v i f hp hke hk _ _).1 hc)
end Go.Proofs.YtfkmkpamdlhbgaaGreat
namespace Go.Proofs.YtfkmkpamdlhbgaaGreat
open Go.RowKit
def ballTo (n : Net) (v : Nat) (r : Int) (k : Nat) : List Int := ((List.range k).filter fun w => inB 0 r ((distB n v).getD w 0)).map Int.ofNat
theorem ballTo_snoc {n : Net} {v : Nat} {r : Int} {k : Nat} {d : Int} (h : (distB n v)[k]? = some d) : ballTo n v r (k + 1) = if inB 0 r d then ballTo n v r k ++ [(k : Int)] else ballTo n v r k := by
  unfold ballTo
  rw [List.range_succ, List.filter_append, List.map_append]
  have e : (distB n v).getD k 0 = d := getD_of h
  cases hb : inB 0 r d <;> simp only [List.filter_cons, List.filter_nil, e, hb] <;> simp
theorem ballTo_len (n : Net) (v : Nat) (r : Int) (k : Nat) : (ballTo n v r k).length ≤ k := by
  unfold ballTo
  rw [List.length_map]
  exact Nat.le_trans (List.length_filter_le _ _) (by simp)
theorem dist_bd {n : Net} (hn : netOk n = true) {v w : Nat} (hv : v < n.ends.length) (hw : w < n.ends.length) : -1 ≤ (distB n v).getD w 0 ∧ (distB n v).getD w 0 < n.ends.length := by
  have hl : (distB n v).length = n.ends.length := bfs_len hn _ _ _ (BI.start hv)
  refine bfs_in hn (n.ends.length + 1) _ 0 (BI.start hv) _ ?_
  show (distB n v).getD w 0 ∈ distB n v
  rw [List.getD_eq_getElem?_getD, List.getElem?_eq_getElem (by omega)]
  exact List.getElem_mem _
theorem ball_least {n : Net} (hn : netOk n = true) {v : Nat} (hv : v < n.ends.length) : (ballTo n v 40 n.ends.length)[0]? = some (leastB n v : Int) := by
  have e : ((List.range n.ends.length).filter fun w => inB 0 40 ((distB n v).getD w 0)) = (List.range n.ends.length).filter fun w => decide (0 ≤ (distB n v).getD w 0) := by
    apply List.filter_congr
    intro w hw
    have := dist_bd hn hv (List.mem_range.1 hw)
    have := (netOk_len hn).2
    rw [Bool.eq_iff_iff, inB_iff, decide_eq_true_eq]
    omega
  have hs := least_spec hn hv
  unfold ballTo
  rw [e, List.getElem?_map]
  have : ((List.range n.ends.length).filter fun w => decide (0 ≤ (distB n v).getD w 0))[0]? = some (leastB n v) := by
    rw [← List.head?_eq_getElem?, List.head?_filter]
    unfold leastB
    cases h : (List.range n.ends.length).find? fun w => decide (0 ≤ (distB n v).getD w 0) with
    | none =>
      have := List.find?_eq_none.1 h v (List.mem_range.2 hv)
      exact absurd (decide_eq_true ((dist_iff hn hv hv).2 Rch.refl)) this
    | some u => rfl
  rw [this]
  rfl
set_option maxRecDepth 100000 in
set_option maxHeartbeats 8000000 in
theorem meBall_any (ve vi vn : Value) (n : Net) (v : Nat) (r : Int) (w : World) (h : NetIn w ve vi vn n) (hn : netOk n = true) (hv : v < n.ends.length) :
    Calls Tryz.prog 136 #[.agg #[ve, vi, vn], .int .i64 v, .int .i64 r] w fun e w' => ∃ u, e = .returned u ∧ Own w' w.heap.size u (ballTo n v r n.ends.length) ∧ Below w.heap.size w w' := by
  have hnl := netOk_len hn
  have hnl1 := hnl.1
  have hnl2 := hnl.2
  have Hn := Lib.hid hn
  obtain ⟨w0, hw0⟩ : ∃ w0, w0 = (w).alloc (.cells #[ve, vi, vn] 27) := ⟨_, rfl⟩
  have hb0 : Below w.heap.size w w0 := by rw [hw0]; exact ((Below.refl _ _).alloc (by simp) _)
  have H := Lib.hid (h.keep hb0)
  obtain ⟨h1, h2, h3⟩ := h.keep hb0
  obtain ⟨A, c, rfl, hlc, hm, hA⟩ := h1
  obtain ⟨A2, c2, rfl, _, hm2, _⟩ := h2
  obtain ⟨A3, c3, rfl, _, hm3, _⟩ := h3
  unfold maxLen at hm hm2 hm3
  have p00 : ∀ W, Since w0 W → W.cell? ⟨w.heap.size, 0, none⟩ = some (.slice A n.ends.length c) := have_cell (by rw [hw0]; simp)
  have p01 : ∀ W, Since w0 W → W.cell? ⟨w.heap.size, 1, none⟩ = some (.slice A2 n.ids.length c2) := have_cell (by rw [hw0]; simp)
  have p02 : ∀ W, Since w0 W → W.cell? ⟨w.heap.size, 2, none⟩ = some (.slice A3 n.inputs.length c3) := have_cell (by rw [hw0]; simp)
  have Hb0 := Lib.hid hb0
  have Hw0 := Lib.hid hw0
  have HA := Lib.hid hA
  clear hA h
  clear hb0 hw0
  have hs0 : Since w0 w0 := since_refl _
  clear hn hnl
  go_enter Tryz.func136, Tryz.ntmps136
  go_upto_region 1 with (fail)
  rw [← Hw0.out]
  go_wp2_with fail
  refine (meFrom_any _ _ _ n v w0 H.out Hn.out hv).mono ?_
  obtain ⟨ds, hds⟩ : ∃ ds, ds = distB n v := ⟨_, rfl⟩
  rw [← hds]
  rintro e w2 ⟨u2, rfl, ho2, hb2⟩
  have hdl : ds.length = n.ends.length := by rw [hds]; exact bfs_len Hn.out _ _ _ (BI.start hv)
  obtain ⟨gd, cd, rfl⟩ : ∃ gd cd, u2 = .slice (some ⟨gd, 0, none⟩) n.ends.length cd := by
    rcases ho2.cases with ⟨-, e1⟩ | ⟨gd, cd, rfl, hg1, hg2⟩
    · have := congrArg List.length e1; rw [List.length_nil] at this; omega
    · exact ⟨gd, cd, by rw [hdl]⟩
  have Ho2 := Lib.hid ho2
  have Hs2 := Lib.hid (hs0.trans hb2)
  have Hds := Lib.hid hds
  have Hdl := Lib.hid hdl
  clear ho2 hb2 hds hdl hs0
  go_wp2
  go_loopw [7, 14] (fun u i wr => ∃ k : Nat, k ≤ n.ends.length ∧ i = .int .i64 k ∧ Own wr w2.heap.size u (ballTo n v r k) ∧ Since w2 wr) (fun _ i _ => n.ends.length - (intOf i).toNat)
  case atStart => exact ⟨0, Nat.zero_le _, rfl, by simpa [ballTo] using own_nil _ w2.heap.size, since_refl _⟩
  case round =>
    obtain ⟨k, hk, rfl, ho, hsr⟩ := hrel
    have Ho := Lib.hid ho
    have Hs := Lib.hid hsr
    clear ho hsr
    by_cases hlt : k < n.ends.length
    · have m3 : IntKind.i64.wrap ((k : Int) + 1) = (k : Int) + 1 := wr64 _ (by omega) (by omega)
      obtain ⟨d, hd⟩ := getx ds k (by rw [Hdl.out]; exact hlt)
      have cd1 := (Ho2.out.since Hs.out).cell hd
      have Hn1 := Lib.hid (ballTo_snoc (r := r) (show (distB n v)[k]? = some d by rw [← Hds.out]; exact hd))
      have Hlen : Hid ((ballTo n v r k).length + 1 ≤ 17592186044416) := by show _ ≤ _; have := ballTo_len n v r k; omega
      clear hd
      go_upto_region 5 with (fail)
      go_wp2_with fail
      refine (l1In_b _ _ _ _).mono ?_
      rintro e w' ⟨rfl, rfl⟩
      cases hb : inB 0 r d
      · rw [hb] at Hn1
        clear cd1
        go_wp2
        go_roundw
        case rel => exact ⟨k + 1, by omega, by first | rfl | go_num, by rw [Hn1.out]; exact Ho.out, Hs.out⟩
        case measure => simp [intOf]; omega
      · rw [hb] at Hn1
        clear cd1
        go_wp2_with (at_builtin; refine app_int_s rfl _ _ rfl rfl (Ho.out.since (since_alloc _ (since_refl _))) wr.heap.size k rfl (by simp [go_sem]) Hlen.out (since_alloc _ Hs.out) ?_; intro g cc w3 ho3 hs3)
        have Ho3 := Lib.hid ho3
        have Hs3 := Lib.hid hs3
        clear ho3 hs3
        go_wp2
        go_roundw
        case rel => exact ⟨k + 1, by omega, by first | rfl | go_num, by rw [Hn1.out, if_pos trivial]; exact Ho3.out, Hs3.out⟩
        case measure => simp [intOf]; omega
    · obtain rfl : k = n.ends.length := by omega
      clear hk hlt
      go_wp2
      go_ret
      exact ⟨_, rfl, Ho.out.mono (Nat.le_trans Hb0.out.size Hs2.out.below.size), Since.after Hb0.out (Hs2.out.after Hs.out)⟩
end Go.Proofs.YtfkmkpamdlhbgaaGreat
namespace Go.Proofs.YtfkmkpamdlhbgaaGreat
open Go.RowKit
/-! two colours, plain law -/
def twoAt (n : Net) (v : Nat) : Int := (distB n (leastB n v)).getD v 0 % 2
def twoB (n : Net) : List Int := (List.range n.ends.length).map (twoAt n)
theorem twoB_len (n : Net) : (twoB n).length = n.ends.length := by simp [twoB]
theorem twoB_get {n : Net} {v : Nat} (hv : v < n.ends.length) : (twoB n)[v]? = some (twoAt n v) := by
  unfold twoB
  rw [List.getElem?_map, List.getElem?_range hv]
  rfl
theorem twoB_snoc (n : Net) (k : Nat) : (List.range (k + 1)).map (twoAt n) = (List.range k).map (twoAt n) ++ [twoAt n k] := by rw [List.range_succ, List.map_append]; rfl
theorem least_lt {n : Net} (hn : netOk n = true) {v : Nat} (hv : v < n.ends.length) : leastB n v < n.ends.length := (least_spec hn hv).2.1
theorem dist_own {n : Net} (hn : netOk n = true) {v : Nat} (hv : v < n.ends.length) : 0 ≤ (distB n (leastB n v)).getD v 0 ∧ (distB n (leastB n v)).getD v 0 < n.ends.length :=
  ⟨(dist_iff hn (least_lt hn hv) hv).2 ((least_rch hn (least_lt hn hv) hv (least_root hn hv)).2 rfl), (dist_bd hn (least_lt hn hv) hv).2⟩
theorem two_mod {n : Net} (hn : netOk n = true) {v : Nat} (hv : v < n.ends.length) {d : Int} (hd : (distB n (leastB n v))[v]? = some d) : Int.tmod d 2 = twoAt n v := by
  have h := dist_own hn hv
  unfold twoAt
  rw [getD_of hd] at h ⊢
  exact Int.tmod_eq_emod_of_nonneg h.1
def clashE (n : Net) : Ed → Bool := fun e => (twoB n).getD e.1.toNat 0 == (twoB n).getD e.2.2.1.toNat 0
def clashV (n : Net) (v : Nat) : Int → Bool := fun w => twoAt n v == (twoB n).getD w.toNat 0
def bipB (n : Net) : Bool := !(edgesB n).any (clashE n)
theorem two_getD {n : Net} {v : Nat} (hv : v < n.ends.length) : (twoB n).getD v 0 = twoAt n v := getD_of (twoB_get hv)
/-- both loops see the same -/
theorem bip_ports {n : Net} (hn : netOk n = true) : bipB n = (List.range n.ends.length).all fun v => !(bsee n (v : Int)).any (clashV n v) := by
  unfold bipB
  rw [Bool.eq_iff_iff]
  simp only [Bool.not_eq_true', List.any_eq_false, List.all_eq_true, List.mem_range]
  constructor
  · intro h v hv x hx hc
    rw [show x = ((x.toNat : Nat) : Int) by have := see_in hn (cur := (v : Int)) (by omega) x hx; omega] at hx
    obtain ⟨i, f, hp, hf⟩ := see_port.1 hx
    obtain ⟨p1, p2, p3, p4, p5⟩ := port_in hn hp
    have hxf : x.toNat = f.1.toNat := by omega
    unfold clashV at hc
    rw [hxf, two_getD (by omega)] at hc
    by_cases hk : keepE v i f = true
    · refine h _ (mem_edges_port.2 ⟨v, i, f, hv, hp, hk, rfl⟩) ?_
      unfold clashE
      simp only [Int.toNat_natCast]
      rw [two_getD hv, two_getD (by omega)]
      exact hc
    · have hk2 := (keep_or p2 p4 (by simpa using hk)).1
      refine h _ (mem_edges_port.2 ⟨f.1.toNat, f.2.toNat, ((v : Int), (i : Int)), by omega, p5, hk2, rfl⟩) ?_
      unfold clashE
      simp only [Int.toNat_natCast]
      rw [two_getD hv, two_getD (by omega)]
      simp only [beq_iff_eq] at hc ⊢
      exact hc.symm
  · intro h e he hc
    obtain ⟨v, i, f, hv, hp, _, rfl⟩ := mem_edges_port.1 he
    obtain ⟨p1, p2, p3, p4, p5⟩ := port_in hn hp
    refine h v hv f.1 ?_ ?_
    · rw [show f.1 = ((f.1.toNat : Nat) : Int) by omega]
      exact see_port.2 ⟨i, f, hp, by omega⟩
    · unfold clashV
      unfold clashE at hc
      simp only [Int.toNat_natCast] at hc
      rw [two_getD hv] at hc
      exact hc
end Go.Proofs.YtfkmkpamdlhbgaaGreat
namespace Go.Proofs.YtfkmkpamdlhbgaaGreat
open Go.RowKit
/-! the search for a colouring with three colours, as a plain function -/
def tcGood (n : Net) (l : List Int) (v : Nat) : Bool := !((nearB l (n.ends.getD v [])).contains (l.getD v 0))
def tcRun (n : Net) : Nat → List Int → Int → Nat → Option (Option (List Int))
  | 0, _, _, _ => none
  | f + 1, l, v, s =>
    if (l.length : Int) ≤ v then some (some l)
    else if v < 0 then some none
    else if l.getD v.toNat 0 = 2 then tcRun n f (l.set v.toNat (-1)) (v - 1) s
    else if s = 200000 then none
    else tcRun n f (l.set v.toNat (l.getD v.toNat 0 + 1)) (if tcGood n (l.set v.toNat (l.getD v.toNat 0 + 1)) v.toNat then v + 1 else v) (s + 1)
def tcMu (v : Int) (s : Nat) : Nat := (200000 - s) * 2 + (v + 1).toNat
structure TcSt (n : Net) (l : List Int) (v : Int) (s : Nat) (f : Nat) : Prop where
  len : l.length = n.ends.length
  rng : ∀ x ∈ l, -1 ≤ x ∧ x ≤ 2
  lo : -1 ≤ v
  hi : v ≤ (n.ends.length : Int)
  st : s ≤ 200000
  fu : tcMu v s < f
theorem set_rng {l : List Int} {k : Nat} {y : Int} (h : ∀ x ∈ l, -1 ≤ x ∧ x ≤ 2) (hy : -1 ≤ y ∧ y ≤ 2) : ∀ x ∈ l.set k y, -1 ≤ x ∧ x ≤ 2 := fun x hx => by
  rcases List.mem_or_eq_of_mem_set hx with hx | rfl
  · exact h x hx
  · exact hy
theorem tc_done {n : Net} {l : List Int} {v : Int} {s f : Nat} (h : TcSt n l v s f) (hv : (n.ends.length : Int) ≤ v) : tcRun n f l v s = some (some l) := by
  obtain ⟨g, rfl⟩ : ∃ g, f = g + 1 := ⟨f - 1, by have := h.fu; omega⟩
  unfold tcRun
  rw [if_pos (by rw [h.len]; exact hv)]
theorem tc_none {n : Net} {l : List Int} {v : Int} {s f : Nat} (h : TcSt n l v s f) (hl : v < (n.ends.length : Int)) (hv : v < 0) : tcRun n f l v s = some none := by
  obtain ⟨g, rfl⟩ : ∃ g, f = g + 1 := ⟨f - 1, by have := h.fu; omega⟩
  unfold tcRun
  rw [if_neg (by rw [h.len]; omega), if_pos hv]
theorem tc_back {n : Net} {l : List Int} {k s f : Nat} (h : TcSt n l (k : Int) s (f + 1)) (hl : k < n.ends.length) (hx : l[k]? = some 2) : tcRun n (f + 1) l (k : Int) s = tcRun n f (l.set k (-1)) ((k : Int) - 1) s ∧ TcSt n (l.set k (-1)) ((k : Int) - 1) s f := by
  constructor
  · conv => lhs; unfold tcRun
    rw [if_neg (by rw [h.len]; omega), if_neg (by omega), Int.toNat_natCast, getD_of hx, if_pos rfl]
  · have h1 := h.fu
    unfold tcMu at h1
    exact ⟨by rw [List.length_set]; exact h.len, set_rng h.rng (by omega), by omega, by omega, h.st, by unfold tcMu; omega⟩
theorem tc_stop {n : Net} {l : List Int} {k f : Nat} {x : Int} (h : TcSt n l (k : Int) 200000 (f + 1)) (hl : k < n.ends.length) (hx : l[k]? = some x) (h2 : x ≠ 2) : tcRun n (f + 1) l (k : Int) 200000 = none := by
  unfold tcRun
  rw [if_neg (by rw [h.len]; omega), if_neg (by omega), Int.toNat_natCast, getD_of hx, if_neg h2, if_pos rfl]
theorem tc_go {n : Net} {l : List Int} {k s f : Nat} {x : Int} (h : TcSt n l (k : Int) s (f + 1)) (hl : k < n.ends.length) (hx : l[k]? = some x) (h2 : x ≠ 2) (hs : s ≠ 200000) :
    tcRun n (f + 1) l (k : Int) s = tcRun n f (l.set k (x + 1)) (if tcGood n (l.set k (x + 1)) k then (k : Int) + 1 else (k : Int)) (s + 1) ∧ TcSt n (l.set k (x + 1)) (if tcGood n (l.set k (x + 1)) k then (k : Int) + 1 else (k : Int)) (s + 1) f := by
  have hr := h.rng x (List.mem_of_getElem? hx)
  constructor
  · conv => lhs; unfold tcRun
    rw [if_neg (by rw [h.len]; omega), if_neg (by omega), Int.toNat_natCast, getD_of hx, if_neg h2, if_neg hs]
  · have h1 := h.fu
    have h3 := h.st
    unfold tcMu at h1
    refine ⟨by rw [List.length_set]; exact h.len, set_rng h.rng (by omega), ?_, ?_, by omega, ?_⟩
    · split <;> omega
    · split <;> omega
    · unfold tcMu; split <;> omega
theorem tc_start {n : Net} : TcSt n (List.replicate n.ends.length (-1)) 0 0 400002 := ⟨by simp, fun x hx => by have := (List.mem_replicate.1 hx).2; omega, by omega, by omega, by omega, by unfold tcMu; omega⟩
theorem tc_fuel {n : Net} {l : List Int} {v : Int} {s f : Nat} (h : TcSt n l v s f) : ∃ g, f = g + 1 := ⟨f - 1, by have := h.fu; omega⟩
end Go.Proofs.YtfkmkpamdlhbgaaGreat
namespace Go.Proofs.YtfkmkpamdlhbgaaGreat
open Go.RowKit
/-! the search for labels as a machine: the labels, the place, the steps made -/
theorem getD_set (ls : List Int) (v j : Nat) (x : Int) (hj : j < ls.length) : (ls.set v x).getD j 0 = if v = j then x else ls.getD j 0 := by
  simp only [List.getD_eq_getElem?_getD, List.getElem?_set]
  split
  · rename_i e; subst e; simp [hj]
  · rfl
/-- what is so ahead of a round -/
structure St (N : Nat) (most : Int) (ls : List Int) (v : Nat) : Prop where
  len : ls.length = N
  lo : ∀ j, j < v → j < N → 0 ≤ ls.getD j 0 ∧ ls.getD j 0 ≤ most
  at_ : v < N → -1 ≤ ls.getD v 0 ∧ ls.getD v 0 ≤ most
  hi : ∀ j, v < j → j < N → ls.getD j 0 = -1
/-- what is so when a label has been raised -/
structure Up (N : Nat) (most : Int) (ls : List Int) (v : Nat) : Prop where
  len : ls.length = N
  lo : ∀ j, j ≤ v → j < N → 0 ≤ ls.getD j 0 ∧ ls.getD j 0 ≤ most
  hi : ∀ j, v < j → j < N → ls.getD j 0 = -1
theorem St.start (N : Nat) (most : Int) (hm : 0 ≤ most) : St N most (List.replicate N (-1)) 0 where
  len := by simp
  lo := fun j hj => by omega
  at_ := fun h => by simp [List.getD_eq_getElem?_getD, List.getElem?_replicate, h]; omega
  hi := fun j _ h => by simp [List.getD_eq_getElem?_getD, List.getElem?_replicate, h]
theorem St.back {N : Nat} {most : Int} {ls : List Int} {v : Nat} (h : St N most ls v) (h0 : ¬ v = 0) : St N most (ls.set v (-1)) (v - 1) where
  len := by simp [h.len]
  lo := fun j hj hn => by rw [getD_set _ _ _ _ (by rw [h.len]; exact hn), if_neg (by omega)]; exact h.lo j (by omega) hn
  at_ := fun hn => by rw [getD_set _ _ _ _ (by rw [h.len]; exact hn), if_neg (by omega)]; have := h.lo (v - 1) (by omega) hn; omega
  hi := fun j hj hn => by
    rw [getD_set _ _ _ _ (by rw [h.len]; exact hn)]
    split
    · rfl
    · exact h.hi j (by omega) hn
theorem St.up {N : Nat} {most : Int} {ls : List Int} {v : Nat} (h : St N most ls v) (hv : v < N) (hm : ¬ ls.getD v 0 = most) : Up N most (ls.set v (ls.getD v 0 + 1)) v where
  len := by simp [h.len]
  lo := fun j hj hn => by
    rw [getD_set _ _ _ _ (by rw [h.len]; exact hn)]
    have := h.at_ hv
    split
    · omega
    · exact h.lo j (by omega) hn
  hi := fun j hj hn => by rw [getD_set _ _ _ _ (by rw [h.len]; exact hn), if_neg (by omega)]; exact h.hi j hj hn
theorem Up.stay {N : Nat} {most : Int} {ls : List Int} {v : Nat} (h : Up N most ls v) : St N most ls v where
  len := h.len
  lo := fun j hj hn => h.lo j (by omega) hn
  at_ := fun hn => by have := h.lo v (Nat.le_refl _) hn; omega
  hi := h.hi
theorem Up.on {N : Nat} {most : Int} {ls : List Int} {v : Nat} (h : Up N most ls v) (hm : 0 ≤ most) : St N most ls (v + 1) where
  len := h.len
  lo := fun j hj hn => h.lo j (by omega) hn
  at_ := fun hn => by have := h.hi (v + 1) (by omega) hn; omega
  hi := fun j hj hn => h.hi j (by omega) hn
/-- node w and all its neighbours are not behind v -/
def knownB (n : Net) (w : Int) (v : Nat) : Bool := decide (w ≤ v) && ((n.ends.getD w.toNat []).map fun e => e.1).all (inB 0 v)
def viewG (n : Net) (v : Nat) : List Int := ((n.ends.getD v []).map fun e => e.1) ++ [(v : Int)]
def goodG (n : Net) (acc : List Int → Nat → Bool) (ls : List Int) (v : Nat) : Bool := (viewG n v).all fun w => !knownB n w v || acc ls w.toNat
end Go.Proofs.YtfkmkpamdlhbgaaGreat
namespace Go.Proofs.YtfkmkpamdlhbgaaGreat
open Go.RowKit
/-- the ranges of a scheme -/
def rangesL (s : Int) : List Int := if s = 4 then [100] else if s = 5 then [100, 10, 2] else []
theorem plRanges_any (s : Int) (w : World) :
    Calls Tryz.prog 137 #[.int .i64 s] w fun e w' => ∃ u, e = .returned u ∧ Own w' w.heap.size u (rangesL s) ∧ Below w.heap.size w w' := by
  unfold rangesL
  by_cases h4 : s = 4
  · subst h4
    go_enter Tryz.func137, Tryz.ntmps137
    go_wp2
    go_ret
    exact ⟨_, rfl, own_lit w [100] (by simp [maxLen]), below_alloc _ _⟩
  · by_cases h5 : s = 5
    · subst h5
      go_enter Tryz.func137, Tryz.ntmps137
      go_wp2
      go_ret
      exact ⟨_, rfl, own_lit w [100, 10, 2] (by simp [maxLen]), below_alloc _ _⟩
    · have h4' : (s == 4) = false := by simpa using h4
      have h5' : (s == 5) = false := by simpa using h5
      rw [if_neg h4, if_neg h5]
      clear h4 h5
      go_enter Tryz.func137, Tryz.ntmps137
      go_wp2
      go_ret
      exact ⟨_, rfl, own_nil _ _, Below.refl _ _⟩
end Go.Proofs.YtfkmkpamdlhbgaaGreat
namespace Go.Proofs.YtfkmkpamdlhbgaaGreat
open Go.RowKit
theorem Own.lit {w : World} {base : Nat} {v : Value} {x : Int} {xs : List Int} (h : Own w base v (x :: xs)) : ∃ g c, v = .slice (some ⟨g, 0, none⟩) (xs.length + 1) c ∧ base ≤ g ∧ g < w.heap.size ∧ xs.length + 1 ≤ c ∧ ∀ k y, (x :: xs)[k]? = some y → w.cell? ⟨g, k, none⟩ = some (.int .i64 y) := by
  rcases h.2 with ⟨rfl, h0⟩ | ⟨g, cap, cur, rfl, hb, hg, hnc, hm, hcs, htake⟩
  · simp at h0
  · exact ⟨g, cap, rfl, hb, (Array.getElem?_eq_some_iff.1 hg).1, hnc, fun k y hy => Own.cell h hy⟩
theorem IntS.lit {w : World} {v : Value} {x : Int} {xs : List Int} (h : IntS w v (x :: xs)) : ∃ b off c, v = .slice (some ⟨b, off, none⟩) (xs.length + 1) c ∧ b < w.heap.size ∧ ∀ k y, (x :: xs)[k]? = some y → w.cell? ⟨b, off + k, none⟩ = some (.int .i64 y) := by
  obtain ⟨A, c, rfl, hlc, hm, hA⟩ := h
  obtain ⟨b, off, rfl, h0⟩ := hA 0 x rfl
  refine ⟨b, off, c, rfl, World.block_lt_of_cell? w _ h0, fun k y hy => ?_⟩
  obtain ⟨b', off', he, hc⟩ := hA k y hy
  injection he with he
  injection he with h1 h2
  subst h1 h2
  exact hc
theorem plJoin5 (v : Value) (a b c d : Int) (w : World) (h : IntS w v [a, b, c, d]) (ha : 0 ≤ a) (ha' : a ≤ 999999999999) (hb : 0 ≤ b) (hb' : b ≤ 99) (hc : 0 ≤ c) (hc' : c ≤ 9) (hd : 0 ≤ d) (hd' : d ≤ 1) :
    Calls Tryz.prog 89 #[.int .i64 5, v] w fun e w' => e = .returned (.int .i64 (((a * 100 + b) * 10 + c) * 2 + d)) ∧ Below w.heap.size w w' := by
  obtain ⟨B, off, cp, rfl, hB, hcl⟩ := h.lit
  have c0 := hcl 0 a rfl
  have c1 := hcl 1 b rfl
  have c2 := hcl 2 c rfl
  have c3 := hcl 3 d rfl
  clear hcl h
  simp only [Nat.add_zero] at c0
  go_enter Tryz.func89, Tryz.ntmps89
  go_wp2_with fail
  refine (plRanges_any _ _).mono ?_
  rintro e w1 ⟨u, rfl, ho, hb1⟩
  obtain ⟨g, cc, rfl, hg, hg2, hcc, hcl⟩ := Own.lit (show Own w1 _ u (100 :: [10, 2]) from ho)
  have r0 := hcl 0 100 rfl
  have r1 := hcl 1 10 rfl
  have r2 := hcl 2 2 rfl
  clear hcl
  have d0 := (hb1.cell (p := ⟨B, off, none⟩) hB).trans c0
  have d1 := (hb1.cell (p := ⟨B, off + 1, none⟩) hB).trans c1
  have d2 := (hb1.cell (p := ⟨B, off + 2, none⟩) hB).trans c2
  have d3 := (hb1.cell (p := ⟨B, off + 3, none⟩) hB).trans c3
  have Hb1 := Lib.hid hb1
  clear ho hb1 c0 c1 c2 c3
  go_wp2
  refine wp_loop_rounds 4 ?_
  iterate 4
    rw [rounds_succ]
    go_wp2
  go_ret
  exact ⟨rfl, Hb1.out⟩
theorem plJoin4 (v : Value) (a b : Int) (w : World) (h : IntS w v [a, b]) (ha : 0 ≤ a) (ha' : a ≤ 999999999999) (hb : 0 ≤ b) (hb' : b ≤ 99) :
    Calls Tryz.prog 89 #[.int .i64 4, v] w fun e w' => e = .returned (.int .i64 (a * 100 + b)) ∧ Below w.heap.size w w' := by
  obtain ⟨B, off, cp, rfl, hB, hcl⟩ := h.lit
  have c0 := hcl 0 a rfl
  have c1 := hcl 1 b rfl
  clear hcl h
  simp only [Nat.add_zero] at c0
  go_enter Tryz.func89, Tryz.ntmps89
  go_wp2_with fail
  refine (plRanges_any _ _).mono ?_
  rintro e w1 ⟨u, rfl, ho, hb1⟩
  obtain ⟨g, cc, rfl, hg, hg2, hcc, hcl⟩ := Own.lit (show Own w1 _ u (100 :: []) from ho)
  have r0 := hcl 0 100 rfl
  clear hcl
  have d0 := (hb1.cell (p := ⟨B, off, none⟩) hB).trans c0
  have d1 := (hb1.cell (p := ⟨B, off + 1, none⟩) hB).trans c1
  have Hb1 := Lib.hid hb1
  clear ho hb1 c0 c1
  go_wp2
  refine wp_loop_rounds 2 ?_
  iterate 2
    rw [rounds_succ]
    go_wp2
  go_ret
  exact ⟨rfl, Hb1.out⟩
end Go.Proofs.YtfkmkpamdlhbgaaGreat
namespace Go.Proofs.YtfkmkpamdlhbgaaGreat
open Go.RowKit Go.Shelf
attribute [local go_sem] Oper.semAt_some
/-- what a round keeps: the blocks from lo to hi -/
def KeepMid (lo hi : Nat) (W W' : World) : Prop := W.heap.size ≤ W'.heap.size ∧ ∀ k, lo ≤ k → k < hi → W'.heap[k]? = W.heap[k]?
theorem KeepMid.t {lo hi : Nat} {A B C : World} (h : KeepMid lo hi A B) (k : KeepMid lo hi B C) : KeepMid lo hi A C := ⟨Nat.le_trans h.1 k.1, fun i h1 h2 => (k.2 i h1 h2).trans (h.2 i h1 h2)⟩
theorem KeepMid.refl (lo hi : Nat) (W : World) : KeepMid lo hi W W := ⟨Nat.le_refl _, fun _ _ _ => rfl⟩
theorem KeepMid.b {lo hi : Nat} {w : World} (hh : hi ≤ w.heap.size) (W : World) (l : Nat) (o o' : Obj) (hl : w.heap.size ≤ l) (_ : W.heap[l]? = some o) (_ : o.isCells = false) (_ : o.isWalk = false) : KeepMid lo hi W (W.putObj l o') :=
  ⟨(grownBy_putObj' W l o').size, fun k _ hk => by
    rcases Nat.lt_or_ge k W.heap.size with h | h
    · exact (grownBy_putObj' W l o').block k h (fun e => by cases e; omega)
    · exact World.putObj_heap_other (fun e => by omega)⟩
theorem KeepMid.cell {lo hi : Nat} {W W' : World} (h : KeepMid lo hi W W') {a : Addr} {u : Value} (h1 : lo ≤ a.block) (h2 : a.block < hi) (hc : W.cell? a = some u) : W'.cell? a = some u :=
  (World.cell?_of_block (h.2 a.block h1 h2)).trans hc
/-- a range and where it stands -/
abbrev Rng := { x : Nat × Int // 1 ≤ x.2 ∧ x.2 ≤ 100 }
end Go.Proofs.YtfkmkpamdlhbgaaGreat
namespace Go.Proofs.YtfkmkpamdlhbgaaGreat
open Go.RowKit Go.Shelf
attribute [local go_sem] Oper.semAt_some
def vals (pre : List Rng) : List Int := pre.map fun x => x.1.2
end Go.Proofs.YtfkmkpamdlhbgaaGreat
namespace Go.Proofs.YtfkmkpamdlhbgaaGreat
open Go.RowKit
end Go.Proofs.YtfkmkpamdlhbgaaGreat
namespace Go.Proofs.YtfkmkpamdlhbgaaGreat
open Go.RowKit
/-- the program's test of distances -/
def forI (own : Int) (xs : List Int) : Bool := if own = 0 then xs.countP (fun x => x == own + 1) == xs.length else (xs.countP (fun x => x == own - 1) == 1) && (((xs.countP (fun x => x == own + 1) : Nat) : Int) == (xs.length : Int) - 1)
end Go.Proofs.YtfkmkpamdlhbgaaGreat
namespace Go.Proofs.YtfkmkpamdlhbgaaGreat
open Go.RowKit
def lab (ls : List Int) (e : Int × Int) : Int := ls.getD e.1.toNat 0
/-- a node accepts a proof of a leader -/
def leadB (idk ink : Int) (ls : List Int) (l : Int) (es : List (Int × Int)) : Bool :=
  ((List.range es.length).all fun i => lab ls (es.getD i (0, 0)) / 100 == l / 100) && ((l % 100 == 0 && idk == l / 100 && ink == 1) || (decide (0 < l % 100) && ink != 1 && (List.range es.length).any fun i => lab ls (es.getD i (0, 0)) % 100 == l % 100 - 1))
end Go.Proofs.YtfkmkpamdlhbgaaGreat
namespace Go.Proofs.YtfkmkpamdlhbgaaGreat
open Go.RowKit
end Go.Proofs.YtfkmkpamdlhbgaaGreat
namespace Go.Proofs.YtfkmkpamdlhbgaaGreat
open Go.RowKit
def ev0 (x : Int) : Int := x / 2 / 10 / 100
def ev1 (x : Int) : Int := x / 2 / 10 % 100
def ev2 (x : Int) : Int := x / 2 % 10
def ev3 (x : Int) : Int := x % 2
def evHit (l : Int) (e : Int × Int) (y : Int) : Bool := e.2 == ev2 y && ev1 y == ev1 l + 1
def evSum (ls : List Int) (l : Int) (es : List (Int × Int)) : Nat → Int
  | 0 => 1
  | j + 1 => evSum ls l es j + if evHit l (es.getD j (0, 0)) (lab ls (es.getD j (0, 0))) then ev3 (lab ls (es.getD j (0, 0))) else 0
def evAny (ls : List Int) (l : Int) (es : List (Int × Int)) (j : Nat) : Bool := (List.range j).any fun i => ((i : Int) == ev2 l) && (ev1 (lab ls (es.getD i (0, 0))) == ev1 l - 1)
def evAll (ls : List Int) (l : Int) (es : List (Int × Int)) (j : Nat) : Bool := (List.range j).all fun i => ev0 (lab ls (es.getD i (0, 0))) == ev0 l
/-- a node accepts a proof of an even number -/
def evenB (idk : Int) (ls : List Int) (l : Int) (es : List (Int × Int)) : Bool :=
  evAll ls l es es.length && (ev3 l == evSum ls l es es.length % 2) && ((ev1 l == 0 && ev2 l == 9 && idk == ev0 l && ev3 l == 0) || (decide (0 < ev1 l) && evAny ls l es es.length))
end Go.Proofs.YtfkmkpamdlhbgaaGreat
namespace Go.Proofs.YtfkmkpamdlhbgaaGreat
open Go.RowKit
end Go.Proofs.YtfkmkpamdlhbgaaGreat
namespace Go.Proofs.YtfkmkpamdlhbgaaGreat
open Go.RowKit
set_option maxHeartbeats 2000000 in
theorem indexI_any (v : Value) (xs : List Int) (x : Int) (w : World) (h : IntS w v xs) :
    Calls Tryz.prog 142 #[v, .int .i64 x] w fun e w' => ∃ i : Int, e = .returned (.int .i64 i) ∧ decide (0 ≤ i) = hasB xs x ∧ w = w' := by
  obtain ⟨A, c, rfl, hlc, hm, hA⟩ := h
  unfold maxLen at hm
  have HA := Lib.hid hA
  clear hA
  go_enter Tryz.func142, Tryz.ntmps142
  go_wp2
  go_loop [8] (fun i => ∃ k : Nat, k ≤ xs.length ∧ i = .int .i64 k ∧ x ∉ xs.take k) (fun i => xs.length - (intOf i).toNat)
  case atStart => exact ⟨0, Nat.zero_le _, rfl, by simp⟩
  case round =>
    obtain ⟨k, hk, rfl, hno⟩ := hrel
    have Hno := Lib.hid hno
    clear hno
    by_cases hlt : k < xs.length
    · obtain ⟨y, hy⟩ := getx xs k hlt
      obtain ⟨b, off, rfl, hcell⟩ := HA.out k y hy
      have Hy := Lib.hid hy
      clear hy
      cases hxy : (x == y)
      · have Hxy := Lib.hid hxy
        go_wp2
        go_round
        case rel =>
          refine ⟨k + 1, by omega, by go_num, ?_⟩
          rw [take_snoc Hy.out]
          simp only [List.mem_append, List.mem_singleton, not_or]
          exact ⟨Hno.out, by simpa using Hxy.out⟩
        case measure => simp [intOf]; omega
      · have Hxy := Lib.hid hxy
        go_wp2
        go_ret
        refine ⟨_, rfl, ?_, rfl⟩
        have e : x = y := by simpa using Hxy.out
        rw [e]
        unfold hasB
        simp [List.mem_of_getElem? Hy.out]
    · go_wp2
      go_ret
      refine ⟨_, rfl, ?_, rfl⟩
      have := Hno.out
      rw [take_all xs hlt] at this
      unfold hasB
      simpa using this
theorem containsI_any (v : Value) (xs : List Int) (x : Int) (w : World) (h : IntS w v xs) :
    Calls Tryz.prog 99 #[v, .int .i64 x] w fun e w' => e = .returned (.bool (hasB xs x)) ∧ w = w' := by
  have H := Lib.hid h
  obtain ⟨A, c, rfl, hlc, hm, hA⟩ := h
  clear hA
  go_enter Tryz.func99, Tryz.ntmps99
  go_wp2_with fail
  refine (indexI_any _ xs x _ H.out).mono ?_
  rintro e w1 ⟨i, rfl, hi, rfl⟩
  have Hi := Lib.hid hi
  clear hi
  go_wp2
  go_ret
  exact ⟨ret_bool Hi.out, rfl⟩
/-- a node accepts -/
def accB (n : Net) (s : Int) (ls : List Int) (l idk ink : Int) (es : List (Int × Int)) : Bool :=
  if s = 1 then decide (l ≤ 1) && !((nearB ls es).any fun x => x != 1 - l)
  else if s = 2 then decide (l ≤ 2) && !hasB (nearB ls es) l
  else if s = 3 then forI l (nearB ls es)
  else if s = 4 then decide (n.ids.length ≠ 0) && leadB idk ink ls l es
  else decide (n.ids.length ≠ 0) && evenB idk ls l es
end Go.Proofs.YtfkmkpamdlhbgaaGreat
namespace Go.Proofs.YtfkmkpamdlhbgaaGreat
open Go.RowKit
def allB' (ls : List Int) (lo hi : Int) : Bool := ls.all (inB lo hi)
/-- a network, a scheme, labels -/
def labOk (n : Net) (s : Int) (ls : List Int) : Bool := netOk n && inB 1 5 s && ((ls.length : Int) == (n.ends.length : Int)) && allB' ls 0 999999999999
end Go.Proofs.YtfkmkpamdlhbgaaGreat
namespace Go.Proofs.YtfkmkpamdlhbgaaGreat
open Go.RowKit
def accAt (n : Net) (s : Int) (ls : List Int) (k : Nat) : Bool := accB n s ls (ls.getD k 0) (n.ids.getD k 0) (n.inputs.getD k 0) (n.ends.getD k [])
end Go.Proofs.YtfkmkpamdlhbgaaGreat
namespace Go.Proofs.YtfkmkpamdlhbgaaGreat
open Go.RowKit
/-! the reference's search -/
/-- the kinds of searches -/
def KindOk (s m most : Int) : Prop := (s = 0 ∧ 3 ≤ m ∧ m ≤ 40 ∧ most = m - 1) ∨ (1 ≤ s ∧ s ≤ 5 ∧ 0 ≤ most ∧ most ≤ 999999999999)
theorem KindOk.most {s m most : Int} (h : KindOk s m most) : 0 ≤ most ∧ most ≤ 999999999999 := by unfold KindOk at h; omega
section
variable {W W' : World} {B : Nat} {ve vi vn vl : Value} {s m most lim st : Int}
end
end Go.Proofs.YtfkmkpamdlhbgaaGreat
namespace Go.Proofs.YtfkmkpamdlhbgaaGreat
open Go.RowKit
end Go.Proofs.YtfkmkpamdlhbgaaGreat
namespace Go.Proofs.YtfkmkpamdlhbgaaGreat
open Go.RowKit
theorem getD_some {ls : List Int} {v : Nat} (h : v < ls.length) : ls[v]? = some (ls.getD v 0) := by rw [List.getD_eq_getElem?_getD, List.getElem?_eq_getElem h]; rfl
end Go.Proofs.YtfkmkpamdlhbgaaGreat
