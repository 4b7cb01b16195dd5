/- Parts of the proof: walks of functions and plain laws. -/
import Derived.Test.YtfkmkpamdlhbgaaGreatP5
namespace Go.Proofs.YtfkmkpamdlhbgaaGreat
open Go.RowKit
/-! distances from a node, by a walk that grows -/
def bstep (cur : Int) (st : List Int × List Int) (x : Int) : List Int × List Int := if st.1.getD x.toNat 0 < 0 then (st.1.set x.toNat (st.1.getD cur.toNat 0 + 1), st.2 ++ [x]) else st
def bsee (n : Net) (cur : Int) : List Int := (n.ends.getD cur.toNat []).map fun e => e.1
def bfs (n : Net) : Nat → List Int × List Int → Nat → List Int
  | 0, st, _ => st.1
  | f + 1, st, i => if i < st.2.length then bfs n f ((bsee n (st.2.getD i 0)).foldl (bstep (st.2.getD i 0)) st) (i + 1) else st.1
def bfsStart (n : Net) (v : Nat) : List Int × List Int := ((List.replicate n.ends.length (-1)).set v 0, [(v : Int)])
def distB (n : Net) (v : Nat) : List Int := bfs n (n.ends.length + 1) (bfsStart n v) 0
structure BI (N : Nat) (st : List Int × List Int) : Prop where
  len : st.1.length = N
  walk : ∀ x ∈ st.2, 0 ≤ x ∧ x < N
  cnt : st.2.length + st.1.countP (fun x => decide (x < 0)) = N
  val : ∀ x ∈ st.1, -1 ≤ x ∧ x < st.2.length
theorem BI.start {n : Net} {v : Nat} (hv : v < n.ends.length) : BI n.ends.length (bfsStart n v) where
  len := by simp [bfsStart]
  walk := fun x hx => by simp [bfsStart] at hx; omega
  cnt := by
    unfold bfsStart
    rw [List.countP_set (by simpa using hv)]
    simp [List.countP_replicate]
    omega
  val := fun x hx => by
    unfold bfsStart at hx ⊢
    rcases List.mem_or_eq_of_mem_set hx with hx | rfl
    · have := List.eq_of_mem_replicate hx
      subst this
      simp
    · simp
theorem BI.bd {N : Nat} {st : List Int × List Int} (h : BI N st) : st.2.length ≤ N := by have := h.cnt; omega
theorem BI.step {N : Nat} {st : List Int × List Int} (h : BI N st) {cur x : Int} (hc : 0 ≤ cur ∧ cur < N) (hx : 0 ≤ x ∧ x < N) : BI N (bstep cur st x) := by
  unfold bstep
  split
  · rename_i hneg
    have hxl : x.toNat < st.1.length := by rw [h.len]; omega
    have hcl : cur.toNat < st.1.length := by rw [h.len]; omega
    have hx1 : st.1[x.toNat] < 0 := by rwa [List.getD_eq_getElem?_getD, List.getElem?_eq_getElem hxl] at hneg
    have hcv : -1 ≤ st.1.getD cur.toNat 0 ∧ st.1.getD cur.toNat 0 < st.2.length := by
      rw [List.getD_eq_getElem?_getD, List.getElem?_eq_getElem hcl]
      exact h.val _ (List.getElem_mem hcl)
    obtain ⟨q, hq⟩ : ∃ q, q = st.1.getD cur.toNat 0 := ⟨_, rfl⟩
    rw [← hq] at hcv ⊢
    refine ⟨by simp [h.len], fun y hy => ?_, ?_, fun y hy => ?_⟩
    · rcases List.mem_append.1 hy with hy | hy
      · exact h.walk y hy
      · simp at hy; subst hy; exact hx
    · have h2 := h.cnt
      have h3 : 0 < st.1.countP (fun x => decide (x < 0)) := List.countP_pos_iff.2 ⟨_, List.getElem_mem hxl, by simpa using hx1⟩
      have e1 : (decide (st.1[x.toNat] < 0)) = true := by simpa using hx1
      have e2 : (decide (q + 1 < 0)) = false := by simp; omega
      show (st.2 ++ [x]).length + _ = _
      rw [List.countP_set hxl, e1, e2, List.length_append]
      simp
      omega
    · show _ ∧ y < ((st.2 ++ [x]).length : Nat)
      rw [List.length_append]
      rcases List.mem_or_eq_of_mem_set hy with hy | rfl
      · have := h.val y hy; simp; omega
      · simp; omega
  · exact h
theorem BI.fold {N : Nat} {cur : Int} (hc : 0 ≤ cur ∧ cur < N) : ∀ (xs : List Int) {st : List Int × List Int}, BI N st → (∀ x ∈ xs, 0 ≤ x ∧ x < N) → BI N (xs.foldl (bstep cur) st)
  | [], _, h, _ => h
  | x :: xs, _, h, hx => BI.fold hc xs (h.step hc (hx x (by simp))) (fun y hy => hx y (List.mem_cons_of_mem _ hy))
theorem bstep_walk (cur : Int) (st : List Int × List Int) (x : Int) : ∃ ys, (bstep cur st x).2 = st.2 ++ ys := by
  unfold bstep
  split
  · exact ⟨_, rfl⟩
  · exact ⟨[], by simp⟩
theorem fold_walk (cur : Int) : ∀ (xs : List Int) (st : List Int × List Int), ∃ ys, (xs.foldl (bstep cur) st).2 = st.2 ++ ys
  | [], st => ⟨[], by simp⟩
  | x :: xs, st => by
    obtain ⟨y1, h1⟩ := bstep_walk cur st x
    obtain ⟨y2, h2⟩ := fold_walk cur xs (bstep cur st x)
    exact ⟨y1 ++ y2, by rw [List.foldl_cons, h2, h1, List.append_assoc]⟩
theorem fold_snoc {cur : Int} {xs : List Int} {st : List Int × List Int} {j : Nat} {x : Int} (hx : xs[j]? = some x) : (xs.take (j + 1)).foldl (bstep cur) st = bstep cur ((xs.take j).foldl (bstep cur) st) x := by
  rw [take_snoc hx, List.foldl_append]
  rfl
theorem see_in {n : Net} (hn : netOk n = true) {cur : Int} (hc : 0 ≤ cur ∧ cur < n.ends.length) : ∀ x ∈ bsee n cur, 0 ≤ x ∧ x < n.ends.length := by
  obtain ⟨k, rfl⟩ := Int.eq_ofNat_of_zero_le hc.1
  obtain ⟨es, hes⟩ := getx n.ends k (by omega)
  obtain ⟨-, hin⟩ := netOk_row hn hes
  intro x hx
  unfold bsee at hx
  rw [Int.toNat_natCast, List.getD_eq_getElem?_getD, hes] at hx
  obtain ⟨e, he, rfl⟩ := List.mem_map.1 hx
  exact hin e he
theorem bfs_in {n : Net} (hn : netOk n = true) : ∀ (f : Nat) (st : List Int × List Int) (i : Nat), BI n.ends.length st → ∀ x ∈ bfs n f st i, -1 ≤ x ∧ x < n.ends.length
  | 0, st, _, h, x, hx => by have := h.val x hx; have := h.bd; omega
  | f + 1, st, i, h, x, hx => by
    unfold bfs at hx
    split at hx
    · rename_i hi
      have hw := h.walk (st.2.getD i 0) (by rw [List.getD_eq_getElem?_getD, List.getElem?_eq_getElem hi]; exact List.getElem_mem hi)
      exact bfs_in hn f _ (i + 1) (h.fold hw _ (see_in hn hw)) x hx
    · have := h.val x hx; have := h.bd; omega
theorem bfs_len {n : Net} (hn : netOk n = true) : ∀ (f : Nat) (st : List Int × List Int) (i : Nat), BI n.ends.length st → (bfs n f st i).length = n.ends.length
  | 0, st, _, h => h.len
  | f + 1, st, i, h => by
    unfold bfs
    split
    · rename_i hi
      have hw := h.walk (st.2.getD i 0) (by rw [List.getD_eq_getElem?_getD, List.getElem?_eq_getElem hi]; exact List.getElem_mem hi)
      exact bfs_len hn f _ (i + 1) (h.fold hw _ (see_in hn hw))
    · exact h.len
end Go.Proofs.YtfkmkpamdlhbgaaGreat
namespace Go.Proofs.YtfkmkpamdlhbgaaGreat
open Go.RowKit
/-! the nodes with a distance are those that can be reached -/
inductive Rch (n : Net) (v : Nat) : Nat → Prop
  | refl : Rch n v v
  | step {a b : Nat} : Rch n v a → (b : Int) ∈ bsee n (a : Int) → Rch n v b
structure BR (n : Net) (v : Nat) (st : List Int × List Int) : Prop where
  seen : ∀ w : Nat, w < n.ends.length → (0 ≤ st.1.getD w 0 ↔ (w : Int) ∈ st.2)
  rch : ∀ x ∈ st.2, Rch n v x.toNat
  start : (v : Int) ∈ st.2
theorem BR.begin {n : Net} {v : Nat} (hv : v < n.ends.length) : BR n v (bfsStart n v) where
  seen := fun w hw => by
    unfold bfsStart
    show 0 ≤ ((List.replicate n.ends.length (-1 : Int)).set v 0).getD w 0 ↔ _
    rw [List.getD_eq_getElem?_getD, List.getElem?_set]
    by_cases h : v = w
    · subst h
      simp [hv]
    · rw [if_neg h, List.getElem?_replicate, if_pos hw]
      simp
      omega
  rch := fun x hx => by
    have : x = (v : Int) := by simpa [bfsStart] using hx
    subst this
    exact Rch.refl
  start := by simp [bfsStart]
theorem bstep_sub {cur : Int} {st : List Int × List Int} {x y : Int} (h : y ∈ st.2) : y ∈ (bstep cur st x).2 := by
  obtain ⟨ys, h2⟩ := bstep_walk cur st x
  rw [h2]
  exact List.mem_append_left _ h
theorem BR.one {n : Net} {v : Nat} {st : List Int × List Int} {cur x : Int} (hI : BI n.ends.length st) (h : BR n v st) (hc : cur ∈ st.2) (hx : x ∈ bsee n cur) (hxr : 0 ≤ x ∧ x < n.ends.length) : BR n v (bstep cur st x) ∧ x ∈ (bstep cur st x).2 := by
  have hcr := hI.walk cur hc
  obtain ⟨c, rfl⟩ := Int.eq_ofNat_of_zero_le hcr.1
  obtain ⟨y, rfl⟩ := Int.eq_ofNat_of_zero_le hxr.1
  have hq := (h.seen c (by omega)).2 hc
  have hlen := hI.len
  unfold bstep
  split
  · rename_i hneg
    refine ⟨⟨fun w hw => ?_, fun z hz => ?_, List.mem_append_left _ h.start⟩, by simp⟩
    · show 0 ≤ (st.1.set (y : Int).toNat _).getD w 0 ↔ (w : Int) ∈ st.2 ++ [(y : Int)]
      rw [List.getD_eq_getElem?_getD, List.getElem?_set, Int.toNat_natCast]
      by_cases e : y = w
      · subst e
        rw [if_pos rfl, if_pos (by omega)]
        simp only [Option.getD_some, List.mem_append, List.mem_singleton, or_true, iff_true]
        rw [Int.toNat_natCast]
        omega
      · rw [if_neg e, ← List.getD_eq_getElem?_getD, h.seen w hw, List.mem_append, List.mem_singleton]
        constructor
        · exact Or.inl
        · rintro (h2 | h2)
          · exact h2
          · omega
    · rcases List.mem_append.1 hz with hz | hz
      · exact h.rch z hz
      · obtain rfl : z = (y : Int) := by simpa using hz
        exact Rch.step (h.rch _ hc) (by simpa using hx)
  · rename_i hneg
    exact ⟨h, (h.seen y (by omega)).1 (by rw [Int.toNat_natCast] at hneg; omega)⟩
theorem BR.fold {n : Net} {v : Nat} {cur : Int} : ∀ (xs : List Int) {st : List Int × List Int}, BI n.ends.length st → BR n v st → cur ∈ st.2 → (∀ x ∈ xs, x ∈ bsee n cur ∧ 0 ≤ x ∧ x < n.ends.length) → BR n v (xs.foldl (bstep cur) st) ∧ ∀ x ∈ xs, x ∈ (xs.foldl (bstep cur) st).2
  | [], _, _, h, _, _ => ⟨h, fun _ hx => by simp at hx⟩
  | x :: xs, st, hI, h, hc, hxs => by
    have hx := hxs x (List.mem_cons_self ..)
    have h1 := BR.one hI h hc hx.1 hx.2
    have h2 := BR.fold xs (hI.step (hI.walk cur hc) hx.2) h1.1 (bstep_sub hc) (fun y hy => hxs y (List.mem_cons_of_mem _ hy))
    refine ⟨h2.1, fun y hy => ?_⟩
    rcases List.mem_cons.1 hy with rfl | hy
    · obtain ⟨ys, hw⟩ := fold_walk cur xs (bstep cur st y)
      show y ∈ (xs.foldl (bstep cur) (bstep cur st y)).2
      rw [hw]
      exact List.mem_append_left _ h1.2
    · exact h2.2 y hy
theorem bfs_rch {n : Net} (hn : netOk n = true) {v : Nat} : ∀ (f : Nat) (st : List Int × List Int) (i : Nat), BI n.ends.length st → BR n v st → (∀ k, k < i → ∀ x ∈ bsee n (st.2.getD k 0), x ∈ st.2) → i ≤ st.2.length → n.ends.length < f + i →
    ∃ st' : List Int × List Int, bfs n f st i = st'.1 ∧ BI n.ends.length st' ∧ BR n v st' ∧ ∀ y ∈ st'.2, ∀ x ∈ bsee n y, x ∈ st'.2
  | 0, st, i, hI, _, _, hi, hf => by have := hI.bd; omega
  | f + 1, st, i, hI, hR, hC, hi, hf => by
    unfold bfs
    by_cases hlt : i < st.2.length
    · rw [if_pos hlt]
      have hc : st.2.getD i 0 ∈ st.2 := by rw [List.getD_eq_getElem?_getD, List.getElem?_eq_getElem hlt]; exact List.getElem_mem hlt
      have hcr := hI.walk _ hc
      have hin := see_in hn hcr
      have h1 := BR.fold (cur := st.2.getD i 0) (bsee n (st.2.getD i 0)) hI hR hc (fun x hx => ⟨hx, hin x hx⟩)
      obtain ⟨ys, hw⟩ := fold_walk (st.2.getD i 0) (bsee n (st.2.getD i 0)) st
      refine bfs_rch hn f _ (i + 1) (hI.fold hcr _ hin) h1.1 (fun k hk x hx => ?_) (by rw [hw, List.length_append]; omega) (by omega)
      have ek : ((bsee n (st.2.getD i 0)).foldl (bstep (st.2.getD i 0)) st).2.getD k 0 = st.2.getD k 0 := by
        rw [hw, List.getD_eq_getElem?_getD, List.getElem?_append_left (by omega), ← List.getD_eq_getElem?_getD]
      rw [ek] at hx
      by_cases e : k = i
      · subst e
        exact h1.2 x hx
      · rw [hw]
        exact List.mem_append_left _ (hC k (by omega) x hx)
    · rw [if_neg hlt]
      refine ⟨st, rfl, hI, hR, fun y hy x hx => ?_⟩
      obtain ⟨k, hk, rfl⟩ := List.mem_iff_getElem.1 hy
      refine hC k (by omega) x ?_
      rwa [List.getD_eq_getElem?_getD, List.getElem?_eq_getElem hk]
theorem rch_lt {n : Net} (hn : netOk n = true) {v w : Nat} (hv : v < n.ends.length) (h : Rch n v w) : w < n.ends.length := by
  induction h with
  | refl => exact hv
  | step _ h2 ih => have := see_in hn ⟨by omega, by omega⟩ _ h2; omega
theorem dist_iff {n : Net} (hn : netOk n = true) {v w : Nat} (hv : v < n.ends.length) (hw : w < n.ends.length) : 0 ≤ (distB n v).getD w 0 ↔ Rch n v w := by
  obtain ⟨st, h1, h2, h3, h4⟩ := bfs_rch hn (n.ends.length + 1) (bfsStart n v) 0 (BI.start hv) (BR.begin hv) (fun k hk => by omega) (Nat.zero_le _) (by omega)
  unfold distB
  rw [h1, h3.seen w hw]
  constructor
  · intro h; have := h3.rch _ h; simpa using this
  · intro h
    clear hw
    induction h with
    | refl => exact h3.start
    | step _ hb ih => exact h4 _ ih _ hb
theorem Rch.trans {n : Net} {a b c : Nat} (h : Rch n a b) (h2 : Rch n b c) : Rch n a c := by
  induction h2 with
  | refl => exact h
  | step _ hb ih => exact Rch.step ih hb
end Go.Proofs.YtfkmkpamdlhbgaaGreat
namespace Go.Proofs.YtfkmkpamdlhbgaaGreat
open Go.RowKit
theorem see_iff {n : Net} {a b : Nat} : (b : Int) ∈ bsee n (a : Int) ↔ ∃ (j : Nat) (q : Int), (n.ends.getD a [])[j]? = some ((b : Int), q) := by
  unfold bsee
  rw [List.mem_map, Int.toNat_natCast]
  constructor
  · rintro ⟨⟨x, q⟩, hm, h⟩
    obtain ⟨j, hj⟩ := List.mem_iff_getElem?.1 hm
    simp only at h
    subst h
    exact ⟨j, q, hj⟩
  · rintro ⟨j, q, h⟩
    exact ⟨_, List.mem_of_getElem? h, rfl⟩
theorem see_sym {n : Net} (hn : netOk n = true) {a b : Nat} (ha : a < n.ends.length) (h : (b : Int) ∈ bsee n (a : Int)) : (a : Int) ∈ bsee n (b : Int) := by
  obtain ⟨j, q, hj⟩ := see_iff.1 h
  have hjl : j < (n.ends.getD a []).length := by
    rcases Nat.lt_or_ge j (n.ends.getD a []).length with h2 | h2
    · exact h2
    · rw [List.getElem?_eq_none h2] at hj; cases hj
  have hp : hasPortB n.ends (a : Int) (j : Int) = true := by
    unfold hasPortB
    rw [Bool.and_eq_true, Int.toNat_natCast]
    exact ⟨inB_iff.2 (by omega), inB_iff.2 (by omega)⟩
  have h2 := netOk_end hn hp
  have he : endAt n.ends (a : Int) (j : Int) = ((b : Int), q) := by
    unfold endAt
    rw [Int.toNat_natCast, Int.toNat_natCast, List.getD_eq_getElem?_getD, hj]
    rfl
  rw [he] at h2
  obtain ⟨h3, h4⟩ := h2
  unfold hasPortB at h3
  rw [Bool.and_eq_true] at h3
  have h5 := inB_iff.1 h3.2
  obtain ⟨q', rfl⟩ := Int.eq_ofNat_of_zero_le h5.1
  rw [see_iff]
  unfold endAt at h4
  rw [Int.toNat_natCast, Int.toNat_natCast] at h4
  rw [Int.toNat_natCast] at h5
  refine ⟨q', (j : Int), ?_⟩
  have hl : q' < (n.ends.getD b []).length := by omega
  rw [List.getD_eq_getElem?_getD (l := n.ends.getD b []), List.getElem?_eq_getElem hl] at h4
  rw [List.getElem?_eq_getElem hl]
  exact congrArg some h4
theorem Rch.symm {n : Net} (hn : netOk n = true) {a b : Nat} (ha : a < n.ends.length) (h : Rch n a b) : Rch n b a := by
  induction h with
  | refl => exact Rch.refl
  | step h1 hb ih => exact Rch.trans (Rch.step Rch.refl (see_sym hn (rch_lt hn ha h1) hb)) ih
end Go.Proofs.YtfkmkpamdlhbgaaGreat
namespace Go.Proofs.YtfkmkpamdlhbgaaGreat
open Go.RowKit
/-! the components: the least node of each -/
def leastB (n : Net) (v : Nat) : Nat := ((List.range n.ends.length).find? fun w => decide (0 ≤ (distB n v).getD w 0)).getD 0
def compB (n : Net) : List Int := (List.range n.ends.length).map fun v => (leastB n v : Int)
theorem least_spec {n : Net} (hn : netOk n = true) {v : Nat} (hv : v < n.ends.length) : Rch n v (leastB n v) ∧ leastB n v < n.ends.length ∧ (∀ w, Rch n v w → leastB n v ≤ w) := by
  unfold leastB
  cases h : (List.range n.ends.length).find? fun w => decide (0 ≤ (distB n v).getD w 0) with
  | none =>
    have := List.find?_eq_none.1 h v (List.mem_range.2 hv)
    exact absurd (decide_eq_true ((dist_iff hn hv hv).2 Rch.refl)) this
  | some u =>
    rw [List.find?_range_eq_some] at h
    obtain ⟨h1, h2, h3⟩ := h
    have hu := List.mem_range.1 h2
    refine ⟨(dist_iff hn hv hu).1 (of_decide_eq_true h1), hu, fun w hw => ?_⟩
    show u ≤ w
    rcases Nat.lt_or_ge w u with hlt | hge
    · have := h3 w hlt
      rw [decide_eq_true ((dist_iff hn hv (by omega)).2 hw)] at this
      cases this
    · exact hge
theorem least_le {n : Net} (hn : netOk n = true) {v : Nat} (hv : v < n.ends.length) : leastB n v ≤ v := (least_spec hn hv).2.2 v Rch.refl
theorem least_eq {n : Net} (hn : netOk n = true) {a b : Nat} (ha : a < n.ends.length) (h : Rch n a b) : leastB n a = leastB n b := by
  have hb := rch_lt hn ha h
  have h1 := least_spec hn ha
  have h2 := least_spec hn hb
  exact Nat.le_antisymm (h1.2.2 _ (h.trans h2.1)) (h2.2.2 _ ((h.symm hn ha).trans h1.1))
theorem least_root {n : Net} (hn : netOk n = true) {v : Nat} (hv : v < n.ends.length) : leastB n (leastB n v) = leastB n v := (least_eq hn hv (least_spec hn hv).1).symm
theorem least_rch {n : Net} (hn : netOk n = true) {k w : Nat} (hk : k < n.ends.length) (hw : w < n.ends.length) (hr : leastB n k = k) : Rch n k w ↔ leastB n w = k := by
  constructor
  · intro h; rw [← least_eq hn hk h, hr]
  · intro h; have := (least_spec hn hw).1; rw [h] at this; exact this.symm hn hw
/-- the program's list behind k nodes, and in node k behind j distances -/
def compAt (n : Net) (k j : Nat) : List Int := (List.range n.ends.length).map fun w => if decide (leastB n w < k) || (decide (leastB n w = k) && decide (w < j)) then (leastB n w : Int) else -1
theorem compAt_len (n : Net) (k j : Nat) : (compAt n k j).length = n.ends.length := by simp [compAt]
theorem compAt_at {n : Net} {k j w : Nat} (hw : w < n.ends.length) : (compAt n k j)[w]? = some (if decide (leastB n w < k) || (decide (leastB n w = k) && decide (w < j)) then (leastB n w : Int) else -1) := by
  unfold compAt
  rw [List.getElem?_map, List.getElem?_range hw]
  rfl
theorem compAt_zero (n : Net) : compAt n 0 0 = List.replicate n.ends.length (-1) := by
  apply List.ext_getElem?
  intro w
  by_cases hw : w < n.ends.length
  · rw [compAt_at hw, List.getElem?_replicate, if_pos hw]; simp
  · rw [List.getElem?_eq_none (by rw [compAt_len]; omega), List.getElem?_eq_none (by simp; omega)]
theorem compAt_end (n : Net) {j : Nat} (hn : netOk n = true) : compAt n n.ends.length j = compB n := by
  apply List.ext_getElem?
  intro w
  by_cases hw : w < n.ends.length
  · rw [compAt_at hw, if_pos (by simp [(least_spec hn hw).2.1])]
    unfold compB
    rw [List.getElem?_map, List.getElem?_range hw]
    rfl
  · rw [List.getElem?_eq_none (by rw [compAt_len]; omega), List.getElem?_eq_none (by simp [compB]; omega)]
theorem compAt_next (n : Net) (k : Nat) : compAt n k n.ends.length = compAt n (k + 1) 0 := by
  apply List.ext_getElem?
  intro w
  by_cases hw : w < n.ends.length
  · rw [compAt_at hw, compAt_at hw]
    congr 2
    simp only [Bool.or_eq_true, Bool.and_eq_true, decide_eq_true_eq, eq_iff_iff]
    omega
  · rw [List.getElem?_eq_none (by rw [compAt_len]; omega), List.getElem?_eq_none (by rw [compAt_len]; omega)]
theorem compAt_skip {n : Net} (hn : netOk n = true) {k : Nat} (hk : k < n.ends.length) (hr : leastB n k ≠ k) : compAt n k 0 = compAt n (k + 1) 0 := by
  apply List.ext_getElem?
  intro w
  by_cases hw : w < n.ends.length
  · rw [compAt_at hw, compAt_at hw]
    congr 2
    simp only [Bool.or_eq_true, Bool.and_eq_true, decide_eq_true_eq, eq_iff_iff]
    have : leastB n w ≠ k := fun h => hr (by rw [← h]; exact least_root hn hw)
    omega
  · rw [List.getElem?_eq_none (by rw [compAt_len]; omega), List.getElem?_eq_none (by rw [compAt_len]; omega)]
theorem compAt_test {n : Net} (hn : netOk n = true) {k : Nat} (hk : k < n.ends.length) : ∃ x, (compAt n k 0)[k]? = some x ∧ (0 ≤ x ↔ leastB n k ≠ k) := by
  refine ⟨_, compAt_at hk, ?_⟩
  have := least_le hn hk
  by_cases h : leastB n k = k
  · rw [h]; simp
  · rw [if_pos (by simp; omega)]
    constructor
    · intro _; exact h
    · intro _; omega
theorem compAt_put {n : Net} (hn : netOk n = true) {k j : Nat} (hk : k < n.ends.length) (hj : j < n.ends.length) (hr : leastB n k = k) (hd : 0 ≤ (distB n k).getD j 0) : (compAt n k j).set j (k : Int) = compAt n k (j + 1) := by
  have hl := (least_rch hn hk hj hr).1 ((dist_iff hn hk hj).1 hd)
  apply List.ext_getElem?
  intro w
  by_cases hw : w < n.ends.length
  · rw [List.getElem?_set, compAt_at hw, compAt_at hw, compAt_len]
    by_cases e : j = w
    · subst e
      rw [if_pos rfl, if_pos hj, hl, if_pos (by simp)]
    · rw [if_neg e]
      congr 2
      simp only [Bool.or_eq_true, Bool.and_eq_true, decide_eq_true_eq, eq_iff_iff]
      omega
  · rw [List.getElem?_eq_none (by rw [List.length_set, compAt_len]; omega), List.getElem?_eq_none (by rw [compAt_len]; omega)]
theorem compAt_stay {n : Net} (hn : netOk n = true) {k j : Nat} (hk : k < n.ends.length) (hj : j < n.ends.length) (hr : leastB n k = k) (hd : ¬ 0 ≤ (distB n k).getD j 0) : compAt n k j = compAt n k (j + 1) := by
  have hl : leastB n j ≠ k := fun h => hd ((dist_iff hn hk hj).2 ((least_rch hn hk hj hr).2 h))
  apply List.ext_getElem?
  intro w
  by_cases hw : w < n.ends.length
  · rw [compAt_at hw, compAt_at hw]
    congr 2
    simp only [Bool.or_eq_true, Bool.and_eq_true, decide_eq_true_eq, eq_iff_iff]
    by_cases e : j = w
    · subst e; omega
    · omega
  · rw [List.getElem?_eq_none (by rw [compAt_len]; omega), List.getElem?_eq_none (by rw [compAt_len]; omega)]
end Go.Proofs.YtfkmkpamdlhbgaaGreat
