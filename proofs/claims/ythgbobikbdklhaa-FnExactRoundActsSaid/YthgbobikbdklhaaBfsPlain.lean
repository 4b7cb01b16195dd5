import Derived.Test.YthgbobikbdklhaaNear
import Derived.Test.YthgbobikbdklhaaMod1
namespace Go.Proofs.Ythgbobikbdklhaa
open Go.RowKit
/-! distances from a node, by a walk that grows -/
def bstep (cur : Int) (st : List Int × List Int) (x : Int) : List Int × List Int := if st.1.getD x.toNat 0 < 0 then (st.1.set x.toNat (st.1.getD cur.toNat 0 + 1), st.2 ++ [x]) else st
def bsee (n : Net) (cur : Int) : List Int := (n.ends.getD cur.toNat []).map fun e => e.1
def bfs (n : Net) : Nat → List Int × List Int → Nat → List Int
  | 0, st, _ => st.1
  | f + 1, st, i => if i < st.2.length then bfs n f ((bsee n (st.2.getD i 0)).foldl (bstep (st.2.getD i 0)) st) (i + 1) else st.1
def bfsStart (n : Net) (v : Nat) : List Int × List Int := ((List.replicate n.ends.length (-1)).set v 0, [(v : Int)])
def distB (n : Net) (v : Nat) : List Int := bfs n (n.ends.length + 1) (bfsStart n v) 0
structure BI (N : Nat) (st : List Int × List Int) : Prop where
  len : st.1.length = N
  walk : ∀ x ∈ st.2, 0 ≤ x ∧ x < N
  cnt : st.2.length + st.1.countP (fun x => decide (x < 0)) = N
  val : ∀ x ∈ st.1, -1 ≤ x ∧ x < st.2.length
theorem BI.start {n : Net} {v : Nat} (hv : v < n.ends.length) : BI n.ends.length (bfsStart n v) where
  len := by simp [bfsStart]
  walk := fun x hx => by simp [bfsStart] at hx; omega
  cnt := by
    unfold bfsStart
    rw [List.countP_set (by simpa using hv)]
    simp [List.countP_replicate]
    omega
  val := fun x hx => by
    unfold bfsStart at hx ⊢
    rcases List.mem_or_eq_of_mem_set hx with hx | rfl
    · have := List.eq_of_mem_replicate hx
      subst this
      simp
    · simp
theorem BI.bd {N : Nat} {st : List Int × List Int} (h : BI N st) : st.2.length ≤ N := by have := h.cnt; omega
theorem BI.step {N : Nat} {st : List Int × List Int} (h : BI N st) {cur x : Int} (hc : 0 ≤ cur ∧ cur < N) (hx : 0 ≤ x ∧ x < N) : BI N (bstep cur st x) := by
  unfold bstep
  split
  · rename_i hneg
    have hxl : x.toNat < st.1.length := by rw [h.len]; omega
    have hcl : cur.toNat < st.1.length := by rw [h.len]; omega
    have hx1 : st.1[x.toNat] < 0 := by rwa [List.getD_eq_getElem?_getD, List.getElem?_eq_getElem hxl] at hneg
    have hcv : -1 ≤ st.1.getD cur.toNat 0 ∧ st.1.getD cur.toNat 0 < st.2.length := by
      rw [List.getD_eq_getElem?_getD, List.getElem?_eq_getElem hcl]
      exact h.val _ (List.getElem_mem hcl)
    obtain ⟨q, hq⟩ : ∃ q, q = st.1.getD cur.toNat 0 := ⟨_, rfl⟩
    rw [← hq] at hcv ⊢
    refine ⟨by simp [h.len], fun y hy => ?_, ?_, fun y hy => ?_⟩
    · rcases List.mem_append.1 hy with hy | hy
      · exact h.walk y hy
      · simp at hy; subst hy; exact hx
    · have h2 := h.cnt
      have h3 : 0 < st.1.countP (fun x => decide (x < 0)) := List.countP_pos_iff.2 ⟨_, List.getElem_mem hxl, by simpa using hx1⟩
      have e1 : (decide (st.1[x.toNat] < 0)) = true := by simpa using hx1
      have e2 : (decide (q + 1 < 0)) = false := by simp; omega
      show (st.2 ++ [x]).length + _ = _
      rw [List.countP_set hxl, e1, e2, List.length_append]
      simp
      omega
    · show _ ∧ y < ((st.2 ++ [x]).length : Nat)
      rw [List.length_append]
      rcases List.mem_or_eq_of_mem_set hy with hy | rfl
      · have := h.val y hy; simp; omega
      · simp; omega
  · exact h
theorem BI.fold {N : Nat} {cur : Int} (hc : 0 ≤ cur ∧ cur < N) : ∀ (xs : List Int) {st : List Int × List Int}, BI N st → (∀ x ∈ xs, 0 ≤ x ∧ x < N) → BI N (xs.foldl (bstep cur) st)
  | [], _, h, _ => h
  | x :: xs, _, h, hx => BI.fold hc xs (h.step hc (hx x (by simp))) (fun y hy => hx y (List.mem_cons_of_mem _ hy))
theorem bstep_walk (cur : Int) (st : List Int × List Int) (x : Int) : ∃ ys, (bstep cur st x).2 = st.2 ++ ys := by
  unfold bstep
  split
  · exact ⟨_, rfl⟩
  · exact ⟨[], by simp⟩
theorem fold_walk (cur : Int) : ∀ (xs : List Int) (st : List Int × List Int), ∃ ys, (xs.foldl (bstep cur) st).2 = st.2 ++ ys
  | [], st => ⟨[], by simp⟩
  | x :: xs, st => by
    obtain ⟨y1, h1⟩ := bstep_walk cur st x
    obtain ⟨y2, h2⟩ := fold_walk cur xs (bstep cur st x)
    exact ⟨y1 ++ y2, by rw [List.foldl_cons, h2, h1, List.append_assoc]⟩
theorem fold_snoc {cur : Int} {xs : List Int} {st : List Int × List Int} {j : Nat} {x : Int} (hx : xs[j]? = some x) : (xs.take (j + 1)).foldl (bstep cur) st = bstep cur ((xs.take j).foldl (bstep cur) st) x := by
  rw [take_snoc hx, List.foldl_append]
  rfl
theorem see_in {n : Net} (hn : netOk n = true) {cur : Int} (hc : 0 ≤ cur ∧ cur < n.ends.length) : ∀ x ∈ bsee n cur, 0 ≤ x ∧ x < n.ends.length := by
  obtain ⟨k, rfl⟩ := Int.eq_ofNat_of_zero_le hc.1
  obtain ⟨es, hes⟩ := getx n.ends k (by omega)
  obtain ⟨-, hin⟩ := netOk_row hn hes
  intro x hx
  unfold bsee at hx
  rw [Int.toNat_natCast, List.getD_eq_getElem?_getD, hes] at hx
  obtain ⟨e, he, rfl⟩ := List.mem_map.1 hx
  exact hin e he
theorem bfs_in {n : Net} (hn : netOk n = true) : ∀ (f : Nat) (st : List Int × List Int) (i : Nat), BI n.ends.length st → ∀ x ∈ bfs n f st i, -1 ≤ x ∧ x < n.ends.length
  | 0, st, _, h, x, hx => by have := h.val x hx; have := h.bd; omega
  | f + 1, st, i, h, x, hx => by
    unfold bfs at hx
    split at hx
    · rename_i hi
      have hw := h.walk (st.2.getD i 0) (by rw [List.getD_eq_getElem?_getD, List.getElem?_eq_getElem hi]; exact List.getElem_mem hi)
      exact bfs_in hn f _ (i + 1) (h.fold hw _ (see_in hn hw)) x hx
    · have := h.val x hx; have := h.bd; omega
theorem bfs_len {n : Net} (hn : netOk n = true) : ∀ (f : Nat) (st : List Int × List Int) (i : Nat), BI n.ends.length st → (bfs n f st i).length = n.ends.length
  | 0, st, _, h => h.len
  | f + 1, st, i, h => by
    unfold bfs
    split
    · rename_i hi
      have hw := h.walk (st.2.getD i 0) (by rw [List.getD_eq_getElem?_getD, List.getElem?_eq_getElem hi]; exact List.getElem_mem hi)
      exact bfs_len hn f _ (i + 1) (h.fold hw _ (see_in hn hw))
    · exact h.len
/-- the two tests of connectedness agree -/
theorem conn_eq {n : Net} (hn : netOk n = true) {v : Nat} (hv : v < n.ends.length) (hn40 : n.ends.length ≤ 40) : (distB n v).all (inB 0 40) = !(distB n v).contains (-1) := by
  have hb := bfs_in hn (n.ends.length + 1) (bfsStart n v) 0 (BI.start hv)
  rw [Bool.eq_iff_iff]
  simp only [List.all_eq_true, Bool.not_eq_true', Bool.eq_false_iff]
  constructor
  · intro h hc
    have := inB_iff.1 (h (-1) (by simpa using hc))
    omega
  · intro h x hx
    have := hb x hx
    refine inB_iff.2 ⟨?_, by omega⟩
    by_cases e : x = -1
    · subst e; exact absurd (by simpa using hx) h
    · omega
end Go.Proofs.Ythgbobikbdklhaa
