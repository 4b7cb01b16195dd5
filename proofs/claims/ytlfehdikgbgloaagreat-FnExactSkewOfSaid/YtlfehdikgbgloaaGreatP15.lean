/- Parts of the proof: walks of functions and plain laws. -/
import Derived.Test.YtlfehdikgbgloaaGreatP9
import Derived.Test.YtlfehdikgbgloaaGreatP12
import Derived.Test.YtlfehdikgbgloaaGreatP6
import Derived.Test.YtlfehdikgbgloaaGreatP14
import Derived.Test.YtlfehdikgbgloaaGreatP13
namespace Go.Proofs.YtlfehdikgbgloaaGreat
open Go.RowKit
/-! the walk that grows finds the least lengths of ways -/
def dst (st : List Int × List Int) (x : Int) : Int := st.1.getD x.toNat 0
def wk (st : List Int × List Int) (j : Nat) : Int := st.2.getD j 0
theorem wk_mem {st : List Int × List Int} {j : Nat} (h : j < st.2.length) : wk st j ∈ st.2 := by
  unfold wk; rw [List.getD_eq_getElem?_getD, List.getElem?_eq_getElem h]; exact List.getElem_mem h
theorem mem_wk {st : List Int × List Int} {x : Int} (h : x ∈ st.2) : ∃ j, j < st.2.length ∧ wk st j = x := by
  obtain ⟨j, hj, e⟩ := List.mem_iff_getElem.1 h
  exact ⟨j, hj, by unfold wk; rw [List.getD_eq_getElem?_getD, List.getElem?_eq_getElem hj]; exact e⟩
structure BM (n : Net) (v : Nat) (st : List Int × List Int) (i : Nat) : Prop where
  bi : BI n.ends.length st
  mono : ∀ j j', j ≤ j' → j' < st.2.length → dst st (wk st j) ≤ dst st (wk st j')
  near : ∀ j, j < st.2.length → i < st.2.length → dst st (wk st j) ≤ dst st (wk st i) + 1
  pos : ∀ x ∈ st.2, 0 ≤ dst st x
  mem : ∀ x : Int, 0 ≤ x → x < n.ends.length → 0 ≤ dst st x → x ∈ st.2
  prev : ∀ x ∈ st.2, (x = v ∧ dst st x = 0) ∨ ∃ u ∈ st.2, x ∈ bsee n u ∧ dst st x = dst st u + 1
  done : ∀ j, j < i → ∀ x ∈ bsee n (wk st j), 0 ≤ dst st x ∧ dst st x ≤ dst st (wk st j) + 1
  self : (v : Int) ∈ st.2 ∧ dst st v = 0
structure Nxt (n : Net) (cur : Int) (i : Nat) (xs : List Int) (st st' : List Int × List Int) : Prop where
  lt : i < st'.2.length
  at_ : wk st' i = wk st i
  keep : ∀ y ∈ st.2, dst st' y = dst st y
  grow : ∀ y ∈ st.2, y ∈ st'.2
  seen : ∀ x ∈ xs, 0 ≤ dst st' x ∧ dst st' x ≤ dst st cur + 1
theorem BM.step {n : Net} (hn : netOk n = true) {v i : Nat} {st : List Int × List Int} (h : BM n v st i) (hi : i < st.2.length) {x : Int} (hx : 0 ≤ x ∧ x < n.ends.length) (hs : x ∈ bsee n (wk st i)) :
    BM n v (bstep (wk st i) st x) i ∧ Nxt n (wk st i) i [x] st (bstep (wk st i) st x) := by
  obtain ⟨cur, hcur⟩ : ∃ cur, cur = wk st i := ⟨_, rfl⟩
  have hcm : cur ∈ st.2 := by rw [hcur]; exact wk_mem hi
  have hcr := h.bi.walk cur hcm
  have hc0 := h.pos cur hcm
  have hbi := h.bi.step (cur := cur) (x := x) hcr hx
  rw [← hcur] at hs ⊢
  by_cases hneg : dst st x < 0
  · have e : bstep cur st x = (st.1.set x.toNat (dst st cur + 1), st.2 ++ [x]) := by unfold bstep; rw [if_pos (by exact hneg)]; rfl
    rw [e] at hbi ⊢
    obtain ⟨st', hst⟩ : ∃ st', st' = (st.1.set x.toNat (dst st cur + 1), st.2 ++ [x]) := ⟨_, rfl⟩
    rw [← hst] at hbi ⊢
    have hl : st'.2.length = st.2.length + 1 := by rw [hst]; simp
    have hw : ∀ j, j < st.2.length → wk st' j = wk st j := fun j hj => by
      rw [hst]; unfold wk
      simp only [List.getD_eq_getElem?_getD]
      rw [List.getElem?_append_left hj]
    have hwl : wk st' st.2.length = x := by rw [hst]; unfold wk; simp
    have hxl : x.toNat < st.1.length := by rw [h.bi.len]; omega
    have hdx : dst st' x = dst st cur + 1 := by rw [hst]; unfold dst; simp [List.getD_eq_getElem?_getD, hxl]
    have hdy : ∀ y ∈ st.2, dst st' y = dst st y := fun y hy => by
      have h0 := h.pos y hy
      have hyr := h.bi.walk y hy
      have hne : x.toNat ≠ y.toNat := fun e => by
        have : x = y := by omega
        subst this; omega
      rw [hst]
      unfold dst
      rw [List.getD_eq_getElem?_getD, List.getElem?_set_ne hne, ← List.getD_eq_getElem?_getD]
    have hdo : ∀ y, 0 ≤ y → y ≠ x → dst st' y = dst st y := fun y hy hne => by
      have : x.toNat ≠ y.toNat := fun e => by omega
      rw [hst]
      unfold dst
      rw [List.getD_eq_getElem?_getD, List.getElem?_set_ne this, ← List.getD_eq_getElem?_getD]
    have hmem : ∀ y, y ∈ st'.2 ↔ y ∈ st.2 ∨ y = x := fun y => by rw [hst]; simp
    have hold : ∀ j, j < st.2.length → dst st' (wk st' j) = dst st (wk st j) := fun j hj => by rw [hw j hj]; exact hdy _ (wk_mem hj)
    have hnew : dst st' (wk st' st.2.length) = dst st cur + 1 := by rw [hwl]; exact hdx
    have hci : dst st cur = dst st (wk st i) := by rw [hcur]
    refine ⟨⟨hbi, ?_, ?_, ?_, ?_, ?_, ?_, ?_⟩, ⟨by omega, hw i hi, hdy, fun y hy => (hmem y).2 (.inl hy), ?_⟩⟩
    · intro j j' hj hj'
      rw [hl] at hj'
      rcases Nat.lt_succ_iff_lt_or_eq.1 hj' with hj' | rfl
      · rw [hold j (by omega), hold j' hj']; exact h.mono j j' hj hj'
      · rw [hnew]
        rcases Nat.lt_or_eq_of_le hj with hj | rfl
        · rw [hold j hj]; have := h.near j hj hi; omega
        · rw [hnew]; exact Int.le_refl _
    · intro j hj _
      rw [hl] at hj
      rw [hold i hi]
      rcases Nat.lt_succ_iff_lt_or_eq.1 hj with hj | rfl
      · rw [hold j hj]; exact h.near j hj hi
      · rw [hnew]; omega
    · intro y hy
      rcases (hmem y).1 hy with hy | rfl
      · rw [hdy y hy]; exact h.pos y hy
      · rw [hdx]; omega
    · intro y h0 h1 h2
      by_cases e : y = x
      · exact (hmem y).2 (.inr e)
      · rw [hdo y h0 e] at h2
        exact (hmem y).2 (.inl (h.mem y h0 h1 h2))
    · intro y hy
      rcases (hmem y).1 hy with hy | rfl
      · rcases h.prev y hy with ⟨e1, e2⟩ | ⟨u, hu, e1, e2⟩
        · exact .inl ⟨e1, by rw [hdy y hy]; exact e2⟩
        · exact .inr ⟨u, (hmem u).2 (.inl hu), e1, by rw [hdy y hy, hdy u hu]; exact e2⟩
      · exact .inr ⟨cur, (hmem cur).2 (.inl hcm), hs, by rw [hdx, hdy cur hcm]⟩
    · intro j hj y hy
      have hjl : j < st.2.length := by omega
      rw [hw j hjl] at hy
      rw [hold j hjl]
      have h2 := h.done j hj y hy
      by_cases e : y = x
      · subst e; omega
      · rw [hdo y (see_in hn (h.bi.walk _ (wk_mem hjl)) y hy).1 e]; exact h2
    · exact ⟨(hmem _).2 (.inl h.self.1), by rw [hdy _ h.self.1]; exact h.self.2⟩
    · intro y hy
      rcases List.mem_singleton.1 hy with rfl
      rw [hdx]; omega
  · have e : bstep cur st x = st := by unfold bstep; rw [if_neg (by exact hneg)]
    rw [e]
    refine ⟨h, ⟨hi, rfl, fun _ _ => rfl, fun _ hy => hy, ?_⟩⟩
    intro y hy
    rcases List.mem_singleton.1 hy with rfl
    refine ⟨by omega, ?_⟩
    obtain ⟨j, hj, rfl⟩ := mem_wk (h.mem y hx.1 hx.2 (by omega))
    have := h.near j hj hi
    rw [hcur]; exact this
theorem BM.fold {n : Net} (hn : netOk n = true) {v i : Nat} (cur : Int) : ∀ (xs : List Int) {st : List Int × List Int}, BM n v st i → i < st.2.length → wk st i = cur → (∀ x ∈ xs, x ∈ bsee n cur) →
    BM n v (xs.foldl (bstep cur) st) i ∧ Nxt n cur i xs st (xs.foldl (bstep cur) st)
  | [], st, h, hi, _, _ => ⟨h, ⟨hi, rfl, fun _ _ => rfl, fun _ hy => hy, fun x hx => by simp at hx⟩⟩
  | x :: xs, st, h, hi, hc, hs => by
    subst hc
    have hcw := wk_mem hi
    have hx := see_in hn (h.bi.walk _ hcw) x (hs x (by simp))
    obtain ⟨h1, n1⟩ := h.step hn hi hx (hs x (by simp))
    obtain ⟨h2, n2⟩ := BM.fold hn (wk st i) xs h1 n1.lt n1.at_ (fun y hy => hs y (List.mem_cons_of_mem _ hy))
    rw [List.foldl_cons]
    have hk : ∀ y ∈ st.2, dst (xs.foldl (bstep (wk st i)) (bstep (wk st i) st x)) y = dst st y := fun y hy => by rw [n2.keep y (n1.grow y hy), n1.keep y hy]
    refine ⟨h2, ⟨n2.lt, by rw [n2.at_, n1.at_], hk, fun y hy => n2.grow y (n1.grow y hy), fun y hy => ?_⟩⟩
    have e1 := n1.keep _ hcw
    rcases List.mem_cons.1 hy with rfl | hy
    · have h3 := n1.seen y (by simp)
      have hm := h1.mem y hx.1 hx.2 h3.1
      rw [n2.keep y hm]
      exact h3
    · have := n2.seen y hy
      rw [e1] at this
      exact this
theorem BM.next {n : Net} (hn : netOk n = true) {v i : Nat} {st : List Int × List Int} (h : BM n v st i) (hi : i < st.2.length) : BM n v ((bsee n (wk st i)).foldl (bstep (wk st i)) st) (i + 1) := by
  obtain ⟨h1, n1⟩ := h.fold hn (wk st i) (bsee n (wk st i)) hi rfl (fun x hx => hx)
  have hcw := wk_mem hi
  have ek := n1.keep _ hcw
  refine { h1 with near := fun j hj hj2 => ?_, done := fun j hj x hx => ?_ }
  · have := h1.near j hj n1.lt
    have := h1.mono i (i + 1) (by omega) hj2
    omega
  · rcases Nat.lt_succ_iff_lt_or_eq.1 hj with hj | rfl
    · exact h1.done j hj x hx
    · rw [n1.at_] at hx ⊢
      rw [ek]
      exact n1.seen x hx
theorem BM.start {n : Net} {v : Nat} (hv : v < n.ends.length) : BM n v (bfsStart n v) 0 := by
  have hd : dst (bfsStart n v) v = 0 := by unfold dst bfsStart; simp [List.getD_eq_getElem?_getD, hv]
  have hm : ∀ x, x ∈ (bfsStart n v).2 ↔ x = v := fun x => by simp [bfsStart]
  have hl : (bfsStart n v).2.length = 1 := by simp [bfsStart]
  have hw : wk (bfsStart n v) 0 = v := by simp [wk, bfsStart]
  refine ⟨BI.start hv, ?_, ?_, ?_, ?_, ?_, fun j hj => absurd hj (Nat.not_lt_zero _), ⟨(hm _).2 rfl, hd⟩⟩
  · intro j j' hj hj'
    rw [hl] at hj'
    obtain rfl : j' = 0 := by omega
    obtain rfl : j = 0 := by omega
    exact Int.le_refl _
  · intro j hj _
    rw [hl] at hj
    obtain rfl : j = 0 := by omega
    omega
  · intro x hx; rw [(hm x).1 hx, hd]; exact Int.le_refl _
  · intro x h0 h1 h2
    rw [hm]
    apply Classical.byContradiction
    intro hne
    have : v ≠ x.toNat := fun e => by omega
    have hxl : x.toNat < n.ends.length := by omega
    have e : dst (bfsStart n v) x = -1 := by
      unfold dst bfsStart
      rw [List.getD_eq_getElem?_getD, List.getElem?_set_ne this]
      simp [hxl]
    omega
  · intro x hx; exact .inl ⟨(hm x).1 hx, by rw [(hm x).1 hx]; exact hd⟩
/-- what the distances from v are known by -/
structure Dist (n : Net) (v : Nat) (ds : List Int) : Prop where
  len : ds.length = n.ends.length
  lo : ∀ x : Int, 0 ≤ x → x < n.ends.length → -1 ≤ ds.getD x.toNat 0
  self : ds.getD v 0 = 0
  next : ∀ u x : Int, 0 ≤ u → u < n.ends.length → x ∈ bsee n u → 0 ≤ ds.getD u.toNat 0 → 0 ≤ ds.getD x.toNat 0 ∧ ds.getD x.toNat 0 ≤ ds.getD u.toNat 0 + 1
  prev : ∀ x : Int, 0 ≤ x → x < n.ends.length → 0 ≤ ds.getD x.toNat 0 → (x = v ∧ ds.getD x.toNat 0 = 0) ∨ ∃ u : Int, 0 ≤ u ∧ u < n.ends.length ∧ x ∈ bsee n u ∧ 0 ≤ ds.getD u.toNat 0 ∧ ds.getD x.toNat 0 = ds.getD u.toNat 0 + 1
theorem BM.dist {n : Net} {v i : Nat} {st : List Int × List Int} (h : BM n v st i) (hi : st.2.length ≤ i) : Dist n v st.1 where
  len := h.bi.len
  lo := fun x h0 h1 => by
    have hx : x.toNat < st.1.length := by rw [h.bi.len]; omega
    rw [List.getD_eq_getElem?_getD, List.getElem?_eq_getElem hx]
    exact (h.bi.val _ (List.getElem_mem hx)).1
  self := h.self.2
  next := fun u x h0 h1 hx hu => by
    obtain ⟨j, hj, rfl⟩ := mem_wk (h.mem u h0 h1 hu)
    exact h.done j (by omega) x hx
  prev := fun x h0 h1 hx => by
    rcases h.prev x (h.mem x h0 h1 hx) with ⟨e1, e2⟩ | ⟨u, hu, e1, e2⟩
    · exact .inl ⟨e1, e2⟩
    · have := h.bi.walk u hu
      exact .inr ⟨u, this.1, this.2, e1, h.pos u hu, e2⟩
theorem bfs_dist {n : Net} (hn : netOk n = true) {v : Nat} : ∀ (f : Nat) (st : List Int × List Int) (i : Nat), BM n v st i → i ≤ st.2.length → n.ends.length < f + i → Dist n v (bfs n f st i)
  | 0, st, i, h, hi, hf => by have := h.bi.bd; omega
  | f + 1, st, i, h, hi, hf => by
    unfold bfs
    split
    · rename_i hlt
      have h1 := h.next hn hlt
      obtain ⟨ys, hy⟩ := fold_walk (wk st i) (bsee n (wk st i)) st
      exact bfs_dist hn f _ (i + 1) h1 (by have := congrArg List.length hy; rw [List.length_append] at this; show i + 1 ≤ _; unfold wk at this; omega) (by omega)
    · exact h.dist (by omega)
theorem dist_of {n : Net} (hn : netOk n = true) {v : Nat} (hv : v < n.ends.length) : Dist n v (distB n v) :=
  bfs_dist hn _ _ 0 (BM.start hv) (Nat.zero_le _) (by omega)
/-- a way of k steps from u to x -/
inductive Way (n : Net) (u : Int) : Nat → Int → Prop
  | here : 0 ≤ u → u < n.ends.length → Way n u 0 u
  | step {k : Nat} {y x : Int} : Way n u k y → x ∈ bsee n y → Way n u (k + 1) x
theorem Way.range {n : Net} (hn : netOk n = true) {u x : Int} {k : Nat} (h : Way n u k x) : 0 ≤ x ∧ x < n.ends.length := by
  induction h with
  | here h0 h1 => exact ⟨h0, h1⟩
  | step _ hx ih => exact see_in hn ih _ hx
theorem Way.start {n : Net} {u x : Int} {k : Nat} (h : Way n u k x) : 0 ≤ u ∧ u < n.ends.length := by
  induction h with
  | here h0 h1 => exact ⟨h0, h1⟩
  | step _ _ ih => exact ih
theorem Dist.way {n : Net} {v : Nat} {ds : List Int} (h : Dist n v ds) (hv : v < n.ends.length) : ∀ (k : Nat) (x : Int), 0 ≤ x → x < n.ends.length → ds.getD x.toNat 0 = k → Way n v k x
  | 0, x, h0, h1, e => by
    rcases h.prev x h0 h1 (by omega) with ⟨e1, e2⟩ | ⟨u, hu0, hu1, hx, hp, e2⟩
    · subst e1; exact .here h0 h1
    · omega
  | k + 1, x, h0, h1, e => by
    rcases h.prev x h0 h1 (by omega) with ⟨e1, e2⟩ | ⟨u, hu0, hu1, hx, hp, e2⟩
    · omega
    · exact .step (h.way hv k u hu0 hu1 (by omega)) hx
-- the greedy matching
def mSpec (out : List Int) (e : Ed) : List Int := if out.getD e.1.toNat 0 = 0 ∧ out.getD e.2.2.1.toNat 0 = 0 then (out.set e.1.toNat (e.2.1 + 1)).set e.2.2.1.toNat (e.2.2.2 + 1) else out
def mImpl (m : List Int) (e : Ed) : List Int := if e.1 ≠ e.2.2.1 ∧ m.getD e.1.toNat 0 < 0 ∧ m.getD e.2.2.1.toNat 0 < 0 then (m.set e.1.toNat e.2.1).set e.2.2.1.toNat e.2.2.2 else m
end Go.Proofs.YtlfehdikgbgloaaGreat
namespace Go.Proofs.YtlfehdikgbgloaaGreat
open Go.RowKit
-- the greedy matching: the two ways agree
def edLt (a b : Ed) : Prop := a.1 < b.1 ∨ (a.1 = b.1 ∧ a.2.1 < b.2.1)
theorem edges_mem {n : Net} {x : Ed} (h : x ∈ edgesB n) : ∃ v i : Nat, v < n.ends.length ∧ i < (rowOf n v).length ∧ keepE v i ((rowOf n v).getD i (0, 0)) = true ∧ x = ((v : Int), (i : Int), ((rowOf n v).getD i (0, 0)).1, ((rowOf n v).getD i (0, 0)).2) := by
  unfold edgesB edgesTo erow eone at h
  obtain ⟨v, hv, h⟩ := List.mem_flatMap.1 h
  obtain ⟨i, hi, h⟩ := List.mem_flatMap.1 h
  split at h
  · rename_i hk
    exact ⟨v, i, List.mem_range.1 hv, List.mem_range.1 hi, hk, List.mem_singleton.1 h⟩
  · simp at h
theorem edges_in {n : Net} {v i : Nat} (hv : v < n.ends.length) (hi : i < (rowOf n v).length) (hk : keepE v i ((rowOf n v).getD i (0, 0)) = true) : ((v : Int), (i : Int), ((rowOf n v).getD i (0, 0)).1, ((rowOf n v).getD i (0, 0)).2) ∈ edgesB n := by
  unfold edgesB edgesTo erow eone
  exact List.mem_flatMap.2 ⟨v, List.mem_range.2 hv, List.mem_flatMap.2 ⟨i, List.mem_range.2 hi, by rw [if_pos hk]; exact List.mem_singleton.2 rfl⟩⟩
theorem eone_mem {v i : Nat} {e : Int × Int} {x : Ed} (h : x ∈ eone v i e) : x.1 = v ∧ x.2.1 = i := by
  unfold eone at h
  split at h
  · rw [List.mem_singleton.1 h]; exact ⟨rfl, rfl⟩
  · simp at h
theorem edges_sorted (n : Net) : (edgesB n).Pairwise edLt := by
  unfold edgesB edgesTo
  rw [List.pairwise_flatMap]
  refine ⟨fun v _ => ?_, List.pairwise_lt_range.imp fun {u v} h x hx y hy => ?_⟩
  · unfold erow
    rw [List.pairwise_flatMap]
    refine ⟨fun i _ => ?_, List.pairwise_lt_range.imp fun {i j} h x hx y hy => ?_⟩
    · unfold eone
      split <;> simp
    · have := eone_mem hx
      have := eone_mem hy
      right
      omega
  · unfold erow at hx hy
    obtain ⟨i, -, hx⟩ := List.mem_flatMap.1 hx
    obtain ⟨j, -, hy⟩ := List.mem_flatMap.1 hy
    have := eone_mem hx
    have := eone_mem hy
    left
    omega
theorem pre_mem {n : Net} {L R : List Ed} {e x : Ed} (h : edgesB n = L ++ e :: R) (hx : x ∈ edgesB n) (hl : edLt x e) : x ∈ L := by
  have hs := edges_sorted n
  rw [h] at hs hx
  rw [List.pairwise_append, List.pairwise_cons] at hs
  rcases List.mem_append.1 hx with hx | hx
  · exact hx
  · rcases List.mem_cons.1 hx with rfl | hx
    · unfold edLt at hl; omega
    · have := hs.2.1.1 x hx
      unfold edLt at this hl; omega
def portB (n : Net) (v : Nat) (w : Int) : Int := eidx (fun e => e.1 == w) (rowOf n v)
structure MI (n : Net) (L : List Ed) (m s : List Int) : Prop where
  lm : m.length = n.ends.length
  ls : s.length = n.ends.length
  sum : ∀ v, v < n.ends.length → s.getD v 0 = m.getD v 0 + 1 ∧ -1 ≤ m.getD v 0
  mate : ∀ v, v < n.ends.length → 0 ≤ m.getD v 0 → ∃ w : Nat, w < n.ends.length ∧ w ≠ v ∧ m.getD v 0 < (rowOf n v).length ∧ (rowOf n v).getD (m.getD v 0).toNat (0, 0) = ((w : Int), m.getD w 0) ∧ 0 ≤ m.getD w 0 ∧ (rowOf n w).getD (m.getD w 0).toNat (0, 0) = ((v : Int), m.getD v 0) ∧ (v < w → portB n v w = m.getD v 0)
  past : ∀ x ∈ L, 0 ≤ m.getD x.1.toNat 0 ∨ 0 ≤ m.getD x.2.2.1.toNat 0
theorem getD_set_ne {l : List Int} {a b : Nat} {x : Int} (h : a ≠ b) : (l.set a x).getD b 0 = l.getD b 0 := by
  rw [List.getD_eq_getElem?_getD, List.getElem?_set_ne h, ← List.getD_eq_getElem?_getD]
theorem getD_set_eq {l : List Int} {a : Nat} {x : Int} (h : a < l.length) : (l.set a x).getD a 0 = x := by
  simp [List.getD_eq_getElem?_getD, h]
theorem row_back {n : Net} (hn : netOk n = true) {v i : Nat} (hv : v < n.ends.length) (hi : i < (rowOf n v).length) :
    ∃ w j : Nat, (rowOf n v).getD i (0, 0) = ((w : Int), (j : Int)) ∧ w < n.ends.length ∧ j < (rowOf n w).length ∧ (rowOf n w).getD j (0, 0) = ((v : Int), (i : Int)) := by
  have hp : hasPortB n.ends v i = true := by
    unfold hasPortB inB
    unfold rowOf at hi
    simp only [Bool.and_eq_true, decide_eq_true_eq, Int.toNat_natCast]
    omega
  obtain ⟨hp2, e2⟩ := netOk_end hn hp
  obtain ⟨e, he⟩ : ∃ e, e = endAt n.ends v i := ⟨_, rfl⟩
  rw [← he] at hp2 e2
  have he2 : (rowOf n v).getD i (0, 0) = e := by rw [he]; unfold endAt rowOf; rw [Int.toNat_natCast, Int.toNat_natCast]
  obtain ⟨q1, q2⟩ : (0 ≤ e.1 ∧ e.1 < n.ends.length) ∧ (0 ≤ e.2 ∧ e.2 < (n.ends.getD e.1.toNat []).length) := by
    unfold hasPortB inB at hp2
    simp only [Bool.and_eq_true, decide_eq_true_eq] at hp2
    omega
  refine ⟨e.1.toNat, e.2.toNat, ?_, by omega, by unfold rowOf; omega, ?_⟩
  · rw [he2]
    apply Prod.ext
    · show e.1 = _; omega
    · show e.2 = _; omega
  · unfold endAt at e2; unfold rowOf; exact e2
theorem port_first {n : Net} {v i : Nat} {w : Int} (hi : i < (rowOf n v).length) (hw : ((rowOf n v).getD i (0, 0)).1 = w) (hno : ∀ j, j < i → ((rowOf n v).getD j (0, 0)).1 ≠ w) : portB n v w = i := by
  have : (rowOf n v).findIdx? (fun e => e.1 == w) = some i := by
    rw [List.findIdx?_eq_some_iff_getElem]
    have e : ∀ j (h : j < (rowOf n v).length), (rowOf n v)[j] = (rowOf n v).getD j (0, 0) := fun j h => by rw [List.getD_eq_getElem?_getD, List.getElem?_eq_getElem h]; rfl
    refine ⟨hi, by rw [e i hi]; simpa using hw, fun j hj => ?_⟩
    rw [e j (by omega)]
    simpa using hno j hj
  unfold portB eidx
  rw [this]
theorem MI.step {n : Net} (hn : netOk n = true) (hp : plainB n = true) {L R : List Ed} {e : Ed} (hL : edgesB n = L ++ e :: R) {m s : List Int} (h : MI n L m s) : MI n (L ++ [e]) (mImpl m e) (mSpec s e) := by
  have he : e ∈ edgesB n := by rw [hL]; simp
  obtain ⟨v, i, hv, hi, hk, rfl⟩ := edges_mem he
  obtain ⟨w, j, e1, hw, hj, e2⟩ := row_back hn hv hi
  rw [e1] at hk hL ⊢
  have hne : w ≠ v := fun e => by
    subst e
    refine plain_row hp hv (w : Int) ?_ rfl
    unfold bsee
    rw [Int.toNat_natCast]
    refine List.mem_map.2 ⟨(rowOf n w).getD i (0, 0), ?_, by rw [e1]⟩
    show (rowOf n w).getD i (0, 0) ∈ rowOf n w
    rw [List.getD_eq_getElem?_getD, List.getElem?_eq_getElem hi]
    exact List.getElem_mem hi
  have hvw : v < w := by
    unfold keepE at hk
    simp only [Bool.or_eq_true, Bool.and_eq_true, decide_eq_true_eq, beq_iff_eq] at hk
    omega
  have s1 := h.sum v hv
  have s2 := h.sum w hw
  unfold mImpl mSpec
  simp only [Int.toNat_natCast]
  by_cases hc : m.getD v 0 < 0 ∧ m.getD w 0 < 0
  · rw [if_pos ⟨by omega, hc⟩, if_pos (by omega)]
    have lv : v < m.length := by rw [h.lm]; exact hv
    have lw : w < m.length := by rw [h.lm]; exact hw
    have lv' : v < s.length := by rw [h.ls]; exact hv
    have lw' : w < s.length := by rw [h.ls]; exact hw
    have qv : ((m.set v (i : Int)).set w (j : Int)).getD v 0 = i := by rw [getD_set_ne hne, getD_set_eq lv]
    have qw : ((m.set v (i : Int)).set w (j : Int)).getD w 0 = j := getD_set_eq (by rw [List.length_set]; exact lw)
    have go : ∀ u, u ≠ v → u ≠ w → ((m.set v (i : Int)).set w (j : Int)).getD u 0 = m.getD u 0 := fun u h1 h2 => by rw [getD_set_ne (Ne.symm h2), getD_set_ne (Ne.symm h1)]
    have qv' : ((s.set v ((i : Int) + 1)).set w ((j : Int) + 1)).getD v 0 = (i : Int) + 1 := by rw [getD_set_ne hne, getD_set_eq lv']
    have qw' : ((s.set v ((i : Int) + 1)).set w ((j : Int) + 1)).getD w 0 = (j : Int) + 1 := getD_set_eq (by rw [List.length_set]; exact lw')
    have go' : ∀ u, u ≠ v → u ≠ w → ((s.set v ((i : Int) + 1)).set w ((j : Int) + 1)).getD u 0 = s.getD u 0 := fun u h1 h2 => by rw [getD_set_ne (Ne.symm h2), getD_set_ne (Ne.symm h1)]
    have hfirst : portB n v w = i := by
      refine port_first hi (by rw [e1]) fun j' hj' hb => ?_
      have hk' : keepE v j' ((rowOf n v).getD j' (0, 0)) = true := by
        unfold keepE
        rw [hb]
        simp only [Bool.or_eq_true, decide_eq_true_eq]
        left; omega
      have hm := edges_in hv (show j' < (rowOf n v).length by omega) hk'
      have hin := pre_mem hL hm (.inr ⟨rfl, by show (j' : Int) < (i : Int); omega⟩)
      have := h.past _ hin
      simp only [hb, Int.toNat_natCast] at this
      omega
    have hml : ((m.set v (i : Int)).set w (j : Int)).length = n.ends.length := by simp [h.lm]
    generalize (m.set v (i : Int)).set w (j : Int) = m' at *
    refine ⟨hml, by simp [h.ls], fun u hu => ?_, fun u hu h0 => ?_, fun x hx => ?_⟩
    · by_cases u1 : u = v
      · subst u1; rw [qv, qv']; omega
      · by_cases u2 : u = w
        · subst u2; rw [qw, qw']; omega
        · rw [go u u1 u2, go' u u1 u2]; exact h.sum u hu
    · by_cases u1 : u = v
      · subst u1
        refine ⟨w, hw, hne, by rw [qv]; omega, by rw [qv, qw, Int.toNat_natCast]; exact e1, by rw [qw]; omega, by rw [qw, qv, Int.toNat_natCast]; exact e2, fun _ => by rw [qv]; exact hfirst⟩
      · by_cases u2 : u = w
        · subst u2
          exact ⟨v, hv, fun e => u1 e.symm, by rw [qw]; omega, by rw [qv, qw, Int.toNat_natCast]; exact e2, by rw [qv]; omega, by rw [qw, qv, Int.toNat_natCast]; exact e1, fun hlt => by omega⟩
        · rw [go u u1 u2] at h0 ⊢
          obtain ⟨x, x1, x2, x3, x4, x5, x6, x7⟩ := h.mate u hu h0
          have y1 : x ≠ v := fun e => by subst e; omega
          have y2 : x ≠ w := fun e => by subst e; omega
          exact ⟨x, x1, x2, x3, by rw [go x y1 y2]; exact x4, by rw [go x y1 y2]; exact x5, by rw [go x y1 y2]; exact x6, x7⟩
    · have mono : ∀ u, 0 ≤ m.getD u 0 → 0 ≤ m'.getD u 0 := fun u hu => by
        by_cases u1 : u = v
        · subst u1; omega
        · by_cases u2 : u = w
          · subst u2; omega
          · rw [go u u1 u2]; exact hu
      rcases List.mem_append.1 hx with hx | hx
      · rcases h.past x hx with h1 | h1
        · exact .inl (mono _ h1)
        · exact .inr (mono _ h1)
      · rw [List.mem_singleton.1 hx]
        left
        show 0 ≤ m'.getD ((v : Int)).toNat 0
        rw [Int.toNat_natCast, qv]; omega
  · rw [if_neg (fun hh => hc hh.2), if_neg (by omega)]
    refine { h with past := fun x hx => ?_ }
    rcases List.mem_append.1 hx with hx | hx
    · exact h.past x hx
    · rw [List.mem_singleton.1 hx]
      show 0 ≤ m.getD ((v : Int)).toNat 0 ∨ 0 ≤ m.getD ((w : Int)).toNat 0
      rw [Int.toNat_natCast, Int.toNat_natCast]; omega
theorem MI.fold {n : Net} (hn : netOk n = true) (hp : plainB n = true) : ∀ (R L : List Ed) {m s : List Int}, edgesB n = L ++ R → MI n L m s → MI n (edgesB n) (R.foldl mImpl m) (R.foldl mSpec s)
  | [], L, m, s, hL, h => by rw [hL, List.append_nil]; exact h
  | e :: R, L, m, s, hL, h => MI.fold hn hp R (L ++ [e]) (by rw [hL, List.append_assoc]; rfl) (h.step hn hp hL)
-- the states out of the matching, as the program makes them
end Go.Proofs.YtlfehdikgbgloaaGreat
namespace Go.Proofs.YtlfehdikgbgloaaGreat
open Go.RowKit
/-! the program's search -/
section
variable {W W' : World} {B : Nat} {ve vi vn va vl : Value}
end
namespace Go.Proofs.YtlfehdikgbgloaaGreat
open Go.RowKit
theorem Own.at {W : World} {base n c k : Nat} {A : Option Addr} {xs : List Int} {x : Int} (h : Own W base (.slice A n c) xs) (hx : xs[k]? = some x) : ∃ b off, A = some ⟨b, off, none⟩ ∧ W.cell? ⟨b, off + k, none⟩ = some (.int .i64 x) := by
  obtain ⟨A', c', e, _, _, hc⟩ := h.ints
  cases e
  exact hc k x hx
-- the reference's way
end Go.Proofs.YtlfehdikgbgloaaGreat
namespace Go.Proofs.YtlfehdikgbgloaaGreat
open Go.RowKit
-- the reference
end Go.Proofs.YtlfehdikgbgloaaGreat
namespace Go.Proofs.YtlfehdikgbgloaaGreat
open Go.RowKit
namespace Go.Proofs.YtlfehdikgbgloaaGreat
open Go.RowKit
end Go.Proofs.YtlfehdikgbgloaaGreat
namespace Go.Proofs.YtlfehdikgbgloaaGreat
open Go.RowKit
-- lists of lists of four numbers
def four (x : Ed) : Obj := .cells #[.int .i64 x.1, .int .i64 x.2.1, .int .i64 x.2.2.1, .int .i64 x.2.2.2] 3
def rowV (b : Nat) : Value := .slice (some ⟨b, 0, none⟩) 4 4
def OwnL (W : World) (base : Nat) (u : Value) (L : List Ed) : Prop :=
  ∃ bs : List Nat, bs.length = L.length ∧ W.ownsRow base 23 1 u L.length (bs.map rowV) ∧ ∀ (k : Nat) (x : Ed) (b : Nat), L[k]? = some x → bs[k]? = some b → base ≤ b ∧ W.heap[b]? = some (four x) ∧ u.ownBlock ≠ some b
theorem OwnL.stable {W W' : World} {base : Nat} {u : Value} {L : List Ed} (h : OwnL W base u L) (hk : ∀ j, base ≤ j → j < W.heap.size → W'.heap[j]? = W.heap[j]?) : OwnL W' base u L := by
  obtain ⟨bs, h1, h2, h3⟩ := h
  refine ⟨bs, h1, ownsRow_stable h2 fun j hj => hk j (World.ownsRow.lt h2 j (by simpa using hj)).1 (World.ownsRow.lt h2 j (by simpa using hj)).2, fun k x b hx hb => ?_⟩
  obtain ⟨q1, q2, q3⟩ := h3 k x b hx hb
  exact ⟨q1, by rw [hk b q1 (Array.getElem?_eq_some_iff.1 q2).1]; exact q2, q3⟩
theorem OwnL.keep {W W' : World} {base : Nat} {u : Value} {L : List Ed} (h : OwnL W base u L) (hs : Since W W') : OwnL W' base u L := h.stable fun j _ hj => hs.below.block j hj
theorem OwnL.at {W : World} {base : Nat} {u : Value} {L : List Ed} (h : OwnL W base u L) : (∃ A c, u = .slice A L.length c ∧ L.length ≤ c ∧ c ≤ maxLen) ∧ ∀ (k : Nat) (x : Ed), L[k]? = some x → ∃ g c b, u = .slice (some ⟨g, 0, none⟩) L.length c ∧ W.cell? ⟨g, k, none⟩ = some (rowV b) ∧ base ≤ b ∧ W.cell? ⟨b, 0, none⟩ = some (.int .i64 x.1) ∧ W.cell? ⟨b, 1, none⟩ = some (.int .i64 x.2.1) ∧ W.cell? ⟨b, 2, none⟩ = some (.int .i64 x.2.2.1) ∧ W.cell? ⟨b, 3, none⟩ = some (.int .i64 x.2.2.2) := by
  obtain ⟨bs, h1, h2, h3⟩ := h
  have h' := h2
  rcases h2.2 with ⟨rfl, hn⟩ | ⟨g, cap, cur, rfl, hb, hg, hnc, hcm, hsz, htk⟩
  · have : L = [] := List.eq_nil_of_length_eq_zero hn
    subst this
    exact ⟨⟨none, 0, rfl, Nat.le_refl _, Nat.zero_le _⟩, fun k x hk => by simp at hk⟩
  · refine ⟨⟨_, cap, rfl, hnc, hcm⟩, fun k x hk => ?_⟩
    have hkl := lt_of_get hk
    obtain ⟨b, hbk⟩ : ∃ b, bs[k]? = some b := ⟨_, List.getElem?_eq_getElem (by omega)⟩
    obtain ⟨q1, q2, q3⟩ := h3 k x b hk hbk
    refine ⟨g, cap, b, rfl, ?_, q1, ?_⟩
    · rw [World.ownsRow.cellAt (cap := cap) h' _ (by omega), List.getElem?_map, hbk]; rfl
    · unfold four at q2
      simp [World.cell?, q2]
namespace Go.Proofs.YtlfehdikgbgloaaGreat
open Go.RowKit
/-! the skew of a state -/
theorem szNet_idl2 {n : Net} (h : szNet n ≤ 1048576) : n.ids.length ≤ 17592186044416 := by unfold szNet at h; omega
theorem edge_two {n : Net} (hn : netOk n = true) {x : Ed} (hx : x ∈ edgesB n) : ∃ v i w j : Nat, x = ((v : Int), (i : Int), (w : Int), (j : Int)) ∧ v < n.ends.length ∧ w < n.ends.length := by
  obtain ⟨v, i, hv, hi, hk, rfl⟩ := edges_mem hx
  obtain ⟨w, j, e1, hw, hj, e2⟩ := row_back hn hv hi
  rw [e1]
  exact ⟨v, i, w, j, rfl, hv, hw⟩
def skStep (rs : List Int) (s : Int) (e : Ed) : Int := mx s (mx (rs.getD e.1.toNat 0 - rs.getD e.2.2.1.toNat 0) (-(rs.getD e.1.toNat 0 - rs.getD e.2.2.1.toNat 0)))
def skewB (rs : List Int) (es : List Ed) : Int := es.foldl (skStep rs) 0
def fnExactSkewOf_r0 (m : Mac) (n : Net) (x : ASt) : Int := if syGoodB m n x = true then skewB x.rounds (edgesB n) else 0
def fnExactSkewOf_r1 (m : Mac) (n : Net) (x : ASt) : Bool := syGoodB m n x
theorem sk_true {m : Mac} {n : Net} {x : ASt} (h : syGoodB m n x = true) : (Value.tuple #[.int .i64 (fnExactSkewOf_r0 m n x), .bool (fnExactSkewOf_r1 m n x)]) = .tuple #[.int .i64 (skewB x.rounds (edgesB n)), .bool true] := by
  unfold fnExactSkewOf_r0 fnExactSkewOf_r1
  rw [if_pos h, h]
theorem sk_false {m : Mac} {n : Net} {x : ASt} (h : syGoodB m n x = false) : (Value.tuple #[.int .i64 (fnExactSkewOf_r0 m n x), .bool (fnExactSkewOf_r1 m n x)]) = .tuple #[.int .i64 0, .bool false] := by
  unfold fnExactSkewOf_r0 fnExactSkewOf_r1
  rw [if_neg (by rw [h]; simp), h]
theorem sy_rounds {m : Mac} {n : Net} {x : ASt} (h : syGoodB m n x = true) : x.rounds.length = n.ends.length ∧ (∀ r ∈ x.rounds, 0 ≤ r ∧ r ≤ 40) ∧ netOk n = true := by
  unfold syGoodB asyncOkB at h
  simp only [Bool.and_eq_true, beq_iff_eq] at h
  obtain ⟨ha, ⟨⟨⟨h1, h2⟩, _⟩, _⟩, _⟩ := h
  refine ⟨by omega, fun r hr => ?_, asked_net ha⟩
  unfold allB at h2
  rw [List.all_eq_true] at h2
  exact inB_true.1 (h2 r hr)
theorem sk_bd (rs : List Int) (es : List Ed) (h : ∀ e ∈ es, ∃ v w : Nat, e.1 = v ∧ e.2.2.1 = w ∧ v < rs.length ∧ w < rs.length) (hr : ∀ r ∈ rs, 0 ≤ r ∧ r ≤ 40) : ∀ s, 0 ≤ s ∧ s ≤ 40 → 0 ≤ es.foldl (skStep rs) s ∧ es.foldl (skStep rs) s ≤ 40 := by
  induction es with
  | nil => intro s hs; exact hs
  | cons e r ih =>
    intro s hs
    rw [List.foldl_cons]
    refine ih (fun x hx => h x (List.mem_cons_of_mem _ hx)) _ ?_
    obtain ⟨v, w, e1, e2, hv, hw⟩ := h e (by simp)
    unfold skStep mx
    rw [e1, e2, Int.toNat_natCast, Int.toNat_natCast]
    have a := hr _ (List.getElem_mem hv)
    have b := hr _ (List.getElem_mem hw)
    rw [List.getD_eq_getElem?_getD, List.getElem?_eq_getElem hv, List.getD_eq_getElem?_getD, List.getElem?_eq_getElem hw]
    simp only [Option.getD_some]
    split <;> split <;> omega
theorem l1Abs_any (d : Int) (w : World) (hd : -100 ≤ d ∧ d ≤ 100) : Calls Tryz.prog 88 #[.int .i64 d] w fun e w' => e = .returned (.int .i64 (mx d (-d))) ∧ w = w' := by
  have mn : IntKind.i64.wrap (-d) = -d := wr64 _ (by omega) (by omega)
  clear hd
  go_enter Tryz.func88, Tryz.ntmps88
  go_wp2_with fail
  refine (l1Most_any d (-d) w).mono ?_
  rintro e w' ⟨rfl, rfl⟩
  go_wp2
  go_ret
  exact ⟨rfl, rfl⟩
set_option maxRecDepth 100000 in
set_option maxHeartbeats 8000000 in
theorem fnExactSkewOf_spec (ma mb mc md ve vi vn xa xb xc xd xf : Value) (m : Mac) (n : Net) (x : ASt) (w : World) (hMa : MacIn w ma mb mc md m) (h : NetIn w ve vi vn n) (hx : AsIn w xa xb xc xd xf x) (_ : szMac m ≤ 1048576) (hn : szNet n ≤ 1048576) (hsx : szAs x ≤ 1048576) :
    Calls Tryz.prog 34 #[.agg #[.int .i64 m.degree, .int .i64 m.states, .int .i64 m.messages, ma, mb, mc, md], .agg #[ve, vi, vn], .agg #[xa, xb, xc, xd, xf]] w fun e w' => e = .returned (.tuple #[.int .i64 (fnExactSkewOf_r0 m n x), .bool (fnExactSkewOf_r1 m n x)]) ∧ Below w.heap.size w w' := by
  have Hil := Lib.hid (szNet_idl2 hn)
  clear hn hsx
  obtain ⟨w0, hw0⟩ : ∃ w0, w0 = (((w).alloc (.cells #[.int .i64 m.degree, .int .i64 m.states, .int .i64 m.messages, ma, mb, mc, md] 62)).alloc (.cells #[ve, vi, vn] 31)).alloc (.cells #[xa, xb, xc, xd, xf] 66) := ⟨_, rfl⟩
  have hb0 : Below w.heap.size w w0 := by rw [hw0]; exact ((((Below.refl _ _).alloc (by simp <;> omega) _).alloc (by simp <;> omega) _).alloc (by simp <;> omega) _)
  have H := Lib.hid (h.keep hb0)
  obtain ⟨h1, h2, h3⟩ := h.keep hb0
  obtain ⟨A, c, rfl, hlc, hm, hA⟩ := h1
  obtain ⟨A2, c2, rfl, _, hm2, _⟩ := h2
  obtain ⟨A3, c3, rfl, _, hm3, _⟩ := h3
  unfold maxLen at hm hm2 hm3
  have hkM := hMa.keep hb0
  have HM := Lib.hid hkM
  obtain ⟨M0, mz0, rfl, hlM0, hmM0, hMe0⟩ := id hkM.1
  unfold maxLen at hmM0
  have HMe0 := Lib.hid hMe0
  clear hMe0
  obtain ⟨M1, mz1, rfl, hlM1, hmM1, hMe1⟩ := id hkM.2.1
  unfold maxLen at hmM1
  have HMe1 := Lib.hid hMe1
  clear hMe1
  obtain ⟨M2, mz2, rfl, hlM2, hmM2, hMe2⟩ := id hkM.2.2.1
  unfold maxLen at hmM2
  have HMe2 := Lib.hid hMe2
  clear hMe2
  obtain ⟨M3, mz3, rfl, hlM3, hmM3, hMe3⟩ := id hkM.2.2.2
  unfold maxLen at hmM3
  have HMe3 := Lib.hid hMe3
  clear hMe3
  clear hkM hMa
  have hkX := hx.keep hb0
  have HX := Lib.hid hkX
  obtain ⟨X0, xz0, rfl, hlX0, hmX0, hXe0⟩ := id hkX.1
  unfold maxLen at hmX0
  have HXe0 := Lib.hid hXe0
  clear hXe0
  obtain ⟨X1, xz1, rfl, hlX1, hmX1, hXe1⟩ := id hkX.2.1
  unfold maxLen at hmX1
  have HXe1 := Lib.hid hXe1
  clear hXe1
  obtain ⟨X2, xz2, rfl, hlX2, hmX2, hXe2⟩ := id hkX.2.2.1
  unfold maxLen at hmX2
  have HXe2 := Lib.hid hXe2
  clear hXe2
  obtain ⟨X3, xz3, rfl, hlX3, hmX3, hXe3⟩ := id hkX.2.2.2.1
  unfold maxLen at hmX3
  have HXe3 := Lib.hid hXe3
  clear hXe3
  obtain ⟨X4, xz4, rfl, hlX4, hmX4, hXe4⟩ := id hkX.2.2.2.2
  unfold maxLen at hmX4
  have HXe4 := Lib.hid hXe4
  clear hXe4
  clear hkX hx
  have p00 : ∀ W, Since w0 W → W.cell? ⟨w.heap.size, 0, none⟩ = some (.int .i64 m.degree) := have_cell (by rw [hw0]; simp [go_sem])
  have p01 : ∀ W, Since w0 W → W.cell? ⟨w.heap.size, 1, none⟩ = some (.int .i64 m.states) := have_cell (by rw [hw0]; simp [go_sem])
  have p02 : ∀ W, Since w0 W → W.cell? ⟨w.heap.size, 2, none⟩ = some (.int .i64 m.messages) := have_cell (by rw [hw0]; simp [go_sem])
  have p03 : ∀ W, Since w0 W → W.cell? ⟨w.heap.size, 3, none⟩ = some (.slice M0 m.start.length mz0) := have_cell (by rw [hw0]; simp [go_sem])
  have p04 : ∀ W, Since w0 W → W.cell? ⟨w.heap.size, 4, none⟩ = some (.slice M1 m.send.length mz1) := have_cell (by rw [hw0]; simp [go_sem])
  have p05 : ∀ W, Since w0 W → W.cell? ⟨w.heap.size, 5, none⟩ = some (.slice M2 m.clauses.length mz2) := have_cell (by rw [hw0]; simp [go_sem])
  have p06 : ∀ W, Since w0 W → W.cell? ⟨w.heap.size, 6, none⟩ = some (.slice M3 m.output.length mz3) := have_cell (by rw [hw0]; simp [go_sem])
  have p10 : ∀ W, Since w0 W → W.cell? ⟨w.heap.size + 1, 0, none⟩ = some (.slice A n.ends.length c) := have_cell (by rw [hw0]; simp [go_sem])
  have p11 : ∀ W, Since w0 W → W.cell? ⟨w.heap.size + 1, 1, none⟩ = some (.slice A2 n.ids.length c2) := have_cell (by rw [hw0]; simp [go_sem])
  have p12 : ∀ W, Since w0 W → W.cell? ⟨w.heap.size + 1, 2, none⟩ = some (.slice A3 n.inputs.length c3) := have_cell (by rw [hw0]; simp [go_sem])
  have p20 : ∀ W, Since w0 W → W.cell? ⟨w.heap.size + 1 + 1, 0, none⟩ = some (.slice X0 x.rounds.length xz0) := have_cell (by rw [hw0]; simp [go_sem])
  have p21 : ∀ W, Since w0 W → W.cell? ⟨w.heap.size + 1 + 1, 1, none⟩ = some (.slice X1 x.before.length xz1) := have_cell (by rw [hw0]; simp [go_sem])
  have p22 : ∀ W, Since w0 W → W.cell? ⟨w.heap.size + 1 + 1, 2, none⟩ = some (.slice X2 x.now.length xz2) := have_cell (by rw [hw0]; simp [go_sem])
  have p23 : ∀ W, Since w0 W → W.cell? ⟨w.heap.size + 1 + 1, 3, none⟩ = some (.slice X3 x.slots.length xz3) := have_cell (by rw [hw0]; simp [go_sem])
  have p24 : ∀ W, Since w0 W → W.cell? ⟨w.heap.size + 1 + 1, 4, none⟩ = some (.slice X4 x.flight.length xz4) := have_cell (by rw [hw0]; simp [go_sem])
  have Hb0 := Lib.hid hb0
  have Hw0 := Lib.hid hw0
  have HA := Lib.hid hA
  clear hA h
  clear hb0 hw0
  have hs0 : Since w0 w0 := since_refl _
  go_enter Tryz.func34, Tryz.ntmps34
  go_upto_region 1 with (fail)
  rw [← Hw0.out]
  go_wp2_with fail
  refine (syGood_any _ _ _ _ _ _ _ _ _ _ _ _ m n x _ HM.out H.out HX.out Hil.out).mono ?_
  rintro e w1 ⟨rfl, hb⟩
  have hs1 : Since w0 w1 := hb
  clear hb hs0
  cases hg : syGoodB m n x
  · have Hr := Lib.hid (sk_false hg)
    have HS := Lib.hid hs1
    clear hs1
    go_wp2
    go_ret2
    exact ⟨congrArg Ending.returned Hr.out.symm, Since.after Hb0.out HS.out⟩
  · have Hr := Lib.hid (sk_true hg)
    obtain ⟨hrl, hrb, hnn⟩ := sy_rounds hg
    have HR := Lib.hid (And.intro hrl hrb)
    have Hn := Lib.hid hnn
    have Hea := Lib.hid (fun x (hx : x ∈ edgesB n) => edge_two hnn hx)
    have Hbd := Lib.hid (fun k => sk_bd x.rounds ((edgesB n).take k) (fun e he => by obtain ⟨v, i, w, j, rfl, h1, h2⟩ := edge_two hnn (List.mem_of_mem_take he); exact ⟨v, w, rfl, rfl, by omega, by omega⟩) hrb 0 (by omega))
    clear hg hrl hrb hnn
    go_wp2_with fail
    refine (neEdges_any _ _ _ n _ (H.out.keep hs1.below) Hn.out).mono ?_
    rintro e w2 ⟨u, rfl, ho, hb⟩
    have hs2 : Since w0 w2 := hs1.trans hb
    obtain ⟨⟨UA, uc, rfl, hul, hum⟩, hat⟩ := ho.at
    unfold maxLen at hum
    have Hat := Lib.hid hat
    have hs22 : Since w2 w2 := since_refl _
    clear hb hs1 ho hat
    obtain ⟨es, hes⟩ : ∃ es, es = edgesB n := ⟨_, rfl⟩
    rw [← hes] at Hr Hea Hbd Hat hul ⊢
    clear hes
    go_wp2
    go_loopw [8, 19] (fun c i wr => ∃ k : Nat, k ≤ es.length ∧ i = .int .i64 k ∧ c = .int .i64 ((es.take k).foldl (skStep x.rounds) 0) ∧ Since w0 wr ∧ Since w2 wr) (fun _ i _ => es.length - (intOf i).toNat)
    case atStart => exact ⟨0, Nat.zero_le _, rfl, rfl, hs2, hs22⟩
    case round =>
      obtain ⟨k, hk, rfl, rfl, hsr, hsr2⟩ := hrel
      clear hs2 hs22
      by_cases hlt : k < es.length
      · obtain ⟨y, hy⟩ : ∃ y, es[k]? = some y := ⟨_, List.getElem?_eq_getElem hlt⟩
        obtain ⟨v, i, q, j, rfl, hv, hq⟩ := Hea.out y (List.mem_of_getElem? hy)
        obtain ⟨g, c, b, eU, d0, hbg, k0, k1, k2, k3⟩ := Hat.out k _ hy
        cases eU
        unfold rowV at d0
        simp only at k0 k2
        have r0 := lift_cell (have_cell d0) hsr2
        have r1 := lift_cell (have_cell k0) hsr2
        have r2 := lift_cell (have_cell k2) hsr2
        have hvr : v < x.rounds.length := by have := HR.out.1; omega
        have hqr : q < x.rounds.length := by have := HR.out.1; omega
        obtain ⟨rv, hrv⟩ := getx x.rounds v hvr
        obtain ⟨rq, hrq⟩ := getx x.rounds q hqr
        have hb1 := HR.out.2 rv (List.mem_of_getElem? hrv)
        have hb2 := HR.out.2 rq (List.mem_of_getElem? hrq)
        obtain ⟨_, _, hv3, _, _, hA3⟩ := HX.out.1
        cases hv3
        obtain ⟨bi, offi, rfl, hci⟩ := hA3 v rv hrv
        obtain ⟨bj, offj, hej, hcj⟩ := hA3 q rq hrq
        cases hej
        have r3 := lift_cell (have_cell hci) hsr
        have r4 := lift_cell (have_cell hcj) hsr
        have y5 := lift_cell p20 hsr
        obtain ⟨s, hs⟩ : ∃ s, s = (es.take k).foldl (skStep x.rounds) 0 := ⟨_, rfl⟩
        have Hnx : Hid ((es.take (k + 1)).foldl (skStep x.rounds) 0 = mx s (mx (rv - rq) (-(rv - rq)))) := by
          show _ = _
          rw [take_snoc hy, List.foldl_append, ← hs]
          show skStep x.rounds s _ = _
          unfold skStep
          simp only [Int.toNat_natCast]
          rw [getD_of hrv, getD_of hrq]
        rw [← hs]
        have md : IntKind.i64.wrap (rv - rq) = rv - rq := wr64 _ (by omega) (by omega)
        have Hd : Hid (-100 ≤ rv - rq ∧ rv - rq ≤ 100) := by show _ ∧ _; omega
        have Hs := Lib.hid hs
        have HS := Lib.hid hsr
        have HS2 := Lib.hid hsr2
        have hww : Since wr wr := since_refl _
        clear hy hrv hrq hci hcj hA3 d0 k0 k1 k2 k3 hs hb1 hb2
        go_upto_region 7 with (fail)
        refine wp_region_flow 18 (Since wr) (by kernel_rfl) (by kernel_rfl) (by simp) (since_drew (since_refl _)) ?_
        simp only [List.take_succ_cons, List.take_zero, List.drop_succ_cons, List.drop_zero]
        refine flow_val (v := ?_) rfl ?_ ?_; rotate_left; (intro W hW; go_simp; with_reducible rfl)
        simp only [Act.put, List.setIfInBounds_toArray, List.set_cons_succ, List.set_cons_zero]
        refine flow_val (v := ?_) rfl ?_ ?_; rotate_left; (intro W hW; go_simp; with_reducible rfl)
        simp only [Act.put, List.setIfInBounds_toArray, List.set_cons_succ, List.set_cons_zero]
        refine flow_val (v := ?_) rfl ?_ ?_; rotate_left; (intro W hW; go_simp; with_reducible rfl)
        simp only [Act.put, List.setIfInBounds_toArray, List.set_cons_succ, List.set_cons_zero]
        refine flow_val (v := ?_) rfl ?_ ?_; rotate_left; (intro W hW; go_simp; with_reducible rfl)
        simp only [Act.put, List.setIfInBounds_toArray, List.set_cons_succ, List.set_cons_zero]
        refine flow_val (v := ?_) rfl ?_ ?_; rotate_left; (intro W hW; go_simp; with_reducible rfl)
        simp only [Act.put, List.setIfInBounds_toArray, List.set_cons_succ, List.set_cons_zero]
        refine flow_val (v := ?_) rfl ?_ ?_; rotate_left; (intro W hW; go_simp; with_reducible rfl)
        simp only [Act.put, List.setIfInBounds_toArray, List.set_cons_succ, List.set_cons_zero]
        refine flow_val (v := ?_) rfl ?_ ?_; rotate_left; (intro W hW; go_simp; with_reducible rfl)
        simp only [Act.put, List.setIfInBounds_toArray, List.set_cons_succ, List.set_cons_zero]
        refine flow_val (v := ?_) rfl ?_ ?_; rotate_left; (intro W hW; go_simp; with_reducible rfl)
        simp only [Act.put, List.setIfInBounds_toArray, List.set_cons_succ, List.set_cons_zero]
        refine flow_val (v := ?_) rfl ?_ ?_; rotate_left; (intro W hW; go_simp; with_reducible rfl)
        simp only [Act.put, List.setIfInBounds_toArray, List.set_cons_succ, List.set_cons_zero]
        refine flow_val (v := ?_) rfl ?_ ?_; rotate_left; (intro W hW; go_simp; with_reducible rfl)
        simp only [Act.put, List.setIfInBounds_toArray, List.set_cons_succ, List.set_cons_zero]
        refine flow_val (v := ?_) rfl ?_ ?_; rotate_left; (intro W hW; go_simp; with_reducible rfl)
        simp only [Act.put, List.setIfInBounds_toArray, List.set_cons_succ, List.set_cons_zero]
        refine flow_val (v := ?_) rfl ?_ ?_; rotate_left; (intro W hW; go_simp; with_reducible rfl)
        simp only [Act.put, List.setIfInBounds_toArray, List.set_cons_succ, List.set_cons_zero]
        refine flow_val (v := ?_) rfl ?_ ?_; rotate_left; (intro W hW; go_simp; with_reducible rfl)
        simp only [Act.put, List.setIfInBounds_toArray, List.set_cons_succ, List.set_cons_zero]
        refine flow_val (v := ?_) rfl ?_ ?_; rotate_left; (intro W hW; go_simp; with_reducible rfl)
        simp only [Act.put, List.setIfInBounds_toArray, List.set_cons_succ, List.set_cons_zero]
        refine flow_val (v := ?_) rfl ?_ ?_; rotate_left; (intro W hW; go_simp; with_reducible rfl)
        simp only [Act.put, List.setIfInBounds_toArray, List.set_cons_succ, List.set_cons_zero]
        refine flow_val (v := ?_) rfl ?_ ?_; rotate_left; (intro W hW; go_simp; with_reducible rfl)
        simp only [Act.put, List.setIfInBounds_toArray, List.set_cons_succ, List.set_cons_zero]
        refine flow_op ?_ rfl ?_ ?_; rotate_left; (intro W hW; unfold Gives; go_simp; (with_reducible refine (l1Abs_any _ W Hd.out).mono ?_); rintro e W' ⟨rfl, hb3⟩; first | (refine ⟨?_, Since.trans hW hb3⟩; with_reducible rfl) | (subst hb3; refine ⟨?_, hW⟩; with_reducible rfl))
        simp only [Act.put, List.setIfInBounds_toArray, List.set_cons_succ, List.set_cons_zero]
        refine flow_op ?_ rfl ?_ ?_; rotate_left; (intro W hW; unfold Gives; go_simp; (with_reducible refine (l1Most_any _ _ W).mono ?_); rintro e W' ⟨rfl, hb3⟩; first | (refine ⟨?_, Since.trans hW hb3⟩; with_reducible rfl) | (subst hb3; refine ⟨?_, hW⟩; with_reducible rfl))
        simp only [Act.put, List.setIfInBounds_toArray, List.set_cons_succ, List.set_cons_zero]
        intro W hW
        have HW := Lib.hid hW
        clear hW hww hsr hsr2
        go_wp2
        go_roundw
        case rel => exact ⟨k + 1, by omega, by go_num, by rw [Hnx.out], HS.out.after HW.out, HS2.out.after HW.out⟩
        case measure => simp [intOf]; omega
      · obtain rfl : k = es.length := by omega
        have HS := Lib.hid hsr
        rw [List.take_length]
        have Hz : Hid (es.foldl (skStep x.rounds) 0 = skewB x.rounds es) := rfl
        rw [Hz.out]
        clear hsr hsr2 hlt hk
        go_wp2
        go_ret2
        exact ⟨congrArg Ending.returned Hr.out.symm, Since.after Hb0.out HS.out⟩
set_option maxRecDepth 100000 in
set_option maxHeartbeats 8000000 in
theorem fnExactSkewOf_impl (ma mb mc md ve vi vn xa xb xc xd xf : Value) (m : Mac) (n : Net) (x : ASt) (w : World) (hMa : MacIn w ma mb mc md m) (h : NetIn w ve vi vn n) (hx : AsIn w xa xb xc xd xf x) (_ : szMac m ≤ 1048576) (hn : szNet n ≤ 1048576) (hsx : szAs x ≤ 1048576) :
    Calls Tryz.prog 37 #[.agg #[.int .i64 m.degree, .int .i64 m.states, .int .i64 m.messages, ma, mb, mc, md], .agg #[ve, vi, vn], .agg #[xa, xb, xc, xd, xf]] w fun e w' => e = .returned (.tuple #[.int .i64 (fnExactSkewOf_r0 m n x), .bool (fnExactSkewOf_r1 m n x)]) ∧ Below w.heap.size w w' := by
  have Hil := Lib.hid (szNet_idl2 hn)
  clear hn hsx
  obtain ⟨w0, hw0⟩ : ∃ w0, w0 = (((w).alloc (.cells #[.int .i64 m.degree, .int .i64 m.states, .int .i64 m.messages, ma, mb, mc, md] 62)).alloc (.cells #[ve, vi, vn] 31)).alloc (.cells #[xa, xb, xc, xd, xf] 66) := ⟨_, rfl⟩
  have hb0 : Below w.heap.size w w0 := by rw [hw0]; exact ((((Below.refl _ _).alloc (by simp <;> omega) _).alloc (by simp <;> omega) _).alloc (by simp <;> omega) _)
  have H := Lib.hid (h.keep hb0)
  obtain ⟨h1, h2, h3⟩ := h.keep hb0
  obtain ⟨A, c, rfl, hlc, hm, hA⟩ := h1
  obtain ⟨A2, c2, rfl, _, hm2, _⟩ := h2
  obtain ⟨A3, c3, rfl, _, hm3, _⟩ := h3
  unfold maxLen at hm hm2 hm3
  have hkM := hMa.keep hb0
  have HM := Lib.hid hkM
  obtain ⟨M0, mz0, rfl, hlM0, hmM0, hMe0⟩ := id hkM.1
  unfold maxLen at hmM0
  have HMe0 := Lib.hid hMe0
  clear hMe0
  obtain ⟨M1, mz1, rfl, hlM1, hmM1, hMe1⟩ := id hkM.2.1
  unfold maxLen at hmM1
  have HMe1 := Lib.hid hMe1
  clear hMe1
  obtain ⟨M2, mz2, rfl, hlM2, hmM2, hMe2⟩ := id hkM.2.2.1
  unfold maxLen at hmM2
  have HMe2 := Lib.hid hMe2
  clear hMe2
  obtain ⟨M3, mz3, rfl, hlM3, hmM3, hMe3⟩ := id hkM.2.2.2
  unfold maxLen at hmM3
  have HMe3 := Lib.hid hMe3
  clear hMe3
  clear hkM hMa
  have hkX := hx.keep hb0
  have HX := Lib.hid hkX
  obtain ⟨X0, xz0, rfl, hlX0, hmX0, hXe0⟩ := id hkX.1
  unfold maxLen at hmX0
  have HXe0 := Lib.hid hXe0
  clear hXe0
  obtain ⟨X1, xz1, rfl, hlX1, hmX1, hXe1⟩ := id hkX.2.1
  unfold maxLen at hmX1
  have HXe1 := Lib.hid hXe1
  clear hXe1
  obtain ⟨X2, xz2, rfl, hlX2, hmX2, hXe2⟩ := id hkX.2.2.1
  unfold maxLen at hmX2
  have HXe2 := Lib.hid hXe2
  clear hXe2
  obtain ⟨X3, xz3, rfl, hlX3, hmX3, hXe3⟩ := id hkX.2.2.2.1
  unfold maxLen at hmX3
  have HXe3 := Lib.hid hXe3
  clear hXe3
  obtain ⟨X4, xz4, rfl, hlX4, hmX4, hXe4⟩ := id hkX.2.2.2.2
  unfold maxLen at hmX4
  have HXe4 := Lib.hid hXe4
  clear hXe4
  clear hkX hx
  have p00 : ∀ W, Since w0 W → W.cell? ⟨w.heap.size, 0, none⟩ = some (.int .i64 m.degree) := have_cell (by rw [hw0]; simp [go_sem])
  have p01 : ∀ W, Since w0 W → W.cell? ⟨w.heap.size, 1, none⟩ = some (.int .i64 m.states) := have_cell (by rw [hw0]; simp [go_sem])
  have p02 : ∀ W, Since w0 W → W.cell? ⟨w.heap.size, 2, none⟩ = some (.int .i64 m.messages) := have_cell (by rw [hw0]; simp [go_sem])
  have p03 : ∀ W, Since w0 W → W.cell? ⟨w.heap.size, 3, none⟩ = some (.slice M0 m.start.length mz0) := have_cell (by rw [hw0]; simp [go_sem])
  have p04 : ∀ W, Since w0 W → W.cell? ⟨w.heap.size, 4, none⟩ = some (.slice M1 m.send.length mz1) := have_cell (by rw [hw0]; simp [go_sem])
  have p05 : ∀ W, Since w0 W → W.cell? ⟨w.heap.size, 5, none⟩ = some (.slice M2 m.clauses.length mz2) := have_cell (by rw [hw0]; simp [go_sem])
  have p06 : ∀ W, Since w0 W → W.cell? ⟨w.heap.size, 6, none⟩ = some (.slice M3 m.output.length mz3) := have_cell (by rw [hw0]; simp [go_sem])
  have p10 : ∀ W, Since w0 W → W.cell? ⟨w.heap.size + 1, 0, none⟩ = some (.slice A n.ends.length c) := have_cell (by rw [hw0]; simp [go_sem])
  have p11 : ∀ W, Since w0 W → W.cell? ⟨w.heap.size + 1, 1, none⟩ = some (.slice A2 n.ids.length c2) := have_cell (by rw [hw0]; simp [go_sem])
  have p12 : ∀ W, Since w0 W → W.cell? ⟨w.heap.size + 1, 2, none⟩ = some (.slice A3 n.inputs.length c3) := have_cell (by rw [hw0]; simp [go_sem])
  have p20 : ∀ W, Since w0 W → W.cell? ⟨w.heap.size + 1 + 1, 0, none⟩ = some (.slice X0 x.rounds.length xz0) := have_cell (by rw [hw0]; simp [go_sem])
  have p21 : ∀ W, Since w0 W → W.cell? ⟨w.heap.size + 1 + 1, 1, none⟩ = some (.slice X1 x.before.length xz1) := have_cell (by rw [hw0]; simp [go_sem])
  have p22 : ∀ W, Since w0 W → W.cell? ⟨w.heap.size + 1 + 1, 2, none⟩ = some (.slice X2 x.now.length xz2) := have_cell (by rw [hw0]; simp [go_sem])
  have p23 : ∀ W, Since w0 W → W.cell? ⟨w.heap.size + 1 + 1, 3, none⟩ = some (.slice X3 x.slots.length xz3) := have_cell (by rw [hw0]; simp [go_sem])
  have p24 : ∀ W, Since w0 W → W.cell? ⟨w.heap.size + 1 + 1, 4, none⟩ = some (.slice X4 x.flight.length xz4) := have_cell (by rw [hw0]; simp [go_sem])
  have Hb0 := Lib.hid hb0
  have Hw0 := Lib.hid hw0
  have HA := Lib.hid hA
  clear hA h
  clear hb0 hw0
  have hs0 : Since w0 w0 := since_refl _
  go_enter Tryz.func37, Tryz.ntmps37
  go_upto_region 1 with (fail)
  rw [← Hw0.out]
  go_wp2_with fail
  refine (implIsAsync_any _ _ _ _ _ _ _ _ _ _ _ _ m n x _ HM.out H.out HX.out Hil.out).mono ?_
  rintro e w1 ⟨rfl, hb⟩
  have hs1 : Since w0 w1 := hb
  clear hb hs0
  cases hg : syGoodB m n x
  · have Hr := Lib.hid (sk_false hg)
    have HS := Lib.hid hs1
    clear hs1
    go_wp2
    go_ret2
    exact ⟨congrArg Ending.returned Hr.out.symm, Since.after Hb0.out HS.out⟩
  · have Hr := Lib.hid (sk_true hg)
    obtain ⟨hrl, hrb, hnn⟩ := sy_rounds hg
    have HR := Lib.hid (And.intro hrl hrb)
    have Hn := Lib.hid hnn
    have Hea := Lib.hid (fun x (hx : x ∈ edgesB n) => edge_two hnn hx)
    have Hbd := Lib.hid (fun k => sk_bd x.rounds ((edgesB n).take k) (fun e he => by obtain ⟨v, i, w, j, rfl, h1, h2⟩ := edge_two hnn (List.mem_of_mem_take he); exact ⟨v, w, rfl, rfl, by omega, by omega⟩) hrb 0 (by omega))
    clear hg hrl hrb hnn
    go_wp2_with fail
    refine (edges_any _ _ _ n _ (H.out.keep hs1.below) Hn.out).mono ?_
    rintro e w2 ⟨u, rfl, ho, hb⟩
    have hs2 : Since w0 w2 := hs1.trans hb
    obtain ⟨UA, uc, rfl, hum, hul, hat⟩ := OwnD.read ho
    unfold maxLen at hum
    have Hat := Lib.hid hat
    have hs22 : Since w2 w2 := since_refl _
    clear hb hs1 ho hat
    obtain ⟨es, hes⟩ : ∃ es, es = edgesB n := ⟨_, rfl⟩
    rw [← hes] at Hr Hea Hbd Hat hul ⊢
    clear hes
    go_wp2
    go_loopw [8, 20] (fun c i wr => ∃ k : Nat, k ≤ es.length ∧ i = .int .i64 k ∧ c = .int .i64 ((es.take k).foldl (skStep x.rounds) 0) ∧ Since w0 wr ∧ Since w2 wr) (fun _ i _ => es.length - (intOf i).toNat)
    case atStart => exact ⟨0, Nat.zero_le _, rfl, rfl, hs2, hs22⟩
    case round =>
      obtain ⟨k, hk, rfl, rfl, hsr, hsr2⟩ := hrel
      clear hs2 hs22
      by_cases hlt : k < es.length
      · obtain ⟨y, hy⟩ : ∃ y, es[k]? = some y := ⟨_, List.getElem?_eq_getElem hlt⟩
        obtain ⟨v, i, q, j, rfl, hv, hq⟩ := Hea.out y (List.mem_of_getElem? hy)
        obtain ⟨b, rfl, k0, k1, k2, k3⟩ := Hat.out k _ hy
        simp only at k0 k1 k2 k3
        have r0 := lift_cell (have_cell k0) hsr2
        have r1 := lift_cell (have_cell k1) hsr2
        have r2 := lift_cell (have_cell k2) hsr2
        have r3 := lift_cell (have_cell k3) hsr2
        have hvr : v < x.rounds.length := by have := HR.out.1; omega
        have hqr : q < x.rounds.length := by have := HR.out.1; omega
        obtain ⟨rv, hrv⟩ := getx x.rounds v hvr
        obtain ⟨rq, hrq⟩ := getx x.rounds q hqr
        have hb1 := HR.out.2 rv (List.mem_of_getElem? hrv)
        have hb2 := HR.out.2 rq (List.mem_of_getElem? hrq)
        obtain ⟨_, _, hv3, _, _, hA3⟩ := HX.out.1
        cases hv3
        obtain ⟨bi, offi, rfl, hci⟩ := hA3 v rv hrv
        obtain ⟨bj, offj, hej, hcj⟩ := hA3 q rq hrq
        cases hej
        obtain ⟨s, hs⟩ : ∃ s, s = (es.take k).foldl (skStep x.rounds) 0 := ⟨_, rfl⟩
        have Hnx : Hid ((es.take (k + 1)).foldl (skStep x.rounds) 0 = max (max s (rv - rq)) (-(rv - rq))) := by
          show _ = _
          rw [take_snoc hy, List.foldl_append, ← hs]
          show skStep x.rounds s _ = _
          unfold skStep
          simp only [Int.toNat_natCast]
          rw [getD_of hrv, getD_of hrq, mx_max, mx_max]
          omega
        rw [← hs]
        have md : IntKind.i64.wrap (rv - rq) = rv - rq := wr64 _ (by omega) (by omega)
        have mn : IntKind.i64.wrap (-(rv - rq)) = -(rv - rq) := wr64 _ (by omega) (by omega)
        have Hs := Lib.hid hs
        obtain ⟨w5, hw5⟩ : ∃ w5, w5 = wr.alloc (.cells #[.int .i64 v, .int .i64 i, .int .i64 q, .int .i64 j] 112) := ⟨_, rfl⟩
        have hs5 : Since wr w5 := by rw [hw5]; exact since_alloc _ (since_refl _)
        have z0 : ∀ W, Since w5 W → W.cell? ⟨wr.heap.size, 0, none⟩ = some (.int .i64 v) := have_cell (by rw [hw5]; simp)
        have z2 : ∀ W, Since w5 W → W.cell? ⟨wr.heap.size, 2, none⟩ = some (.int .i64 q) := have_cell (by rw [hw5]; simp)
        have y3 := lift_cell (lift_cell (have_cell hci) hsr) hs5
        have y4 := lift_cell (lift_cell (have_cell hcj) hsr) hs5
        have y5 := lift_cell (lift_cell p20 hsr) hs5
        have HS := Lib.hid (hsr.after hs5)
        have HS2 := Lib.hid (hsr2.after hs5)
        have Hw5 := Lib.hid hw5
        clear hy hrv hrq hci hcj hA3 k0 k1 k2 k3 hs hb1 hb2 hw5 hs5
        go_upto_region 7 with (fail)
        rw [← Hw5.out]
        clear r0 r1 r2 r3 hsr hsr2
        refine wp_region_flow 14 (Since w5) (by kernel_rfl) (by kernel_rfl) (by simp) (since_drew (since_refl _)) ?_
        simp only [List.take_succ_cons, List.take_zero, List.drop_succ_cons, List.drop_zero]
        refine flow_val (v := ?_) rfl ?_ ?_; rotate_left; (intro W hW; go_simp; with_reducible rfl)
        simp only [Act.put, List.setIfInBounds_toArray, List.set_cons_succ, List.set_cons_zero]
        refine flow_val (v := ?_) rfl ?_ ?_; rotate_left; (intro W hW; go_simp; with_reducible rfl)
        simp only [Act.put, List.setIfInBounds_toArray, List.set_cons_succ, List.set_cons_zero]
        refine flow_val (v := ?_) rfl ?_ ?_; rotate_left; (intro W hW; go_simp; with_reducible rfl)
        simp only [Act.put, List.setIfInBounds_toArray, List.set_cons_succ, List.set_cons_zero]
        refine flow_val (v := ?_) rfl ?_ ?_; rotate_left; (intro W hW; go_simp; with_reducible rfl)
        simp only [Act.put, List.setIfInBounds_toArray, List.set_cons_succ, List.set_cons_zero]
        refine flow_val (v := ?_) rfl ?_ ?_; rotate_left; (intro W hW; go_simp; with_reducible rfl)
        simp only [Act.put, List.setIfInBounds_toArray, List.set_cons_succ, List.set_cons_zero]
        refine flow_val (v := ?_) rfl ?_ ?_; rotate_left; (intro W hW; go_simp; with_reducible rfl)
        simp only [Act.put, List.setIfInBounds_toArray, List.set_cons_succ, List.set_cons_zero]
        refine flow_val (v := ?_) rfl ?_ ?_; rotate_left; (intro W hW; go_simp; with_reducible rfl)
        simp only [Act.put, List.setIfInBounds_toArray, List.set_cons_succ, List.set_cons_zero]
        refine flow_val (v := ?_) rfl ?_ ?_; rotate_left; (intro W hW; go_simp; with_reducible rfl)
        simp only [Act.put, List.setIfInBounds_toArray, List.set_cons_succ, List.set_cons_zero]
        refine flow_val (v := ?_) rfl ?_ ?_; rotate_left; (intro W hW; go_simp; with_reducible rfl)
        simp only [Act.put, List.setIfInBounds_toArray, List.set_cons_succ, List.set_cons_zero]
        refine flow_val (v := ?_) rfl ?_ ?_; rotate_left; (intro W hW; go_simp; with_reducible rfl)
        simp only [Act.put, List.setIfInBounds_toArray, List.set_cons_succ, List.set_cons_zero]
        refine flow_val (v := ?_) rfl ?_ ?_; rotate_left; (intro W hW; go_simp; with_reducible rfl)
        simp only [Act.put, List.setIfInBounds_toArray, List.set_cons_succ, List.set_cons_zero]
        refine flow_val (v := ?_) rfl ?_ ?_; rotate_left; (intro W hW; go_simp; with_reducible rfl)
        simp only [Act.put, List.setIfInBounds_toArray, List.set_cons_succ, List.set_cons_zero]
        refine flow_val (v := ?_) rfl ?_ ?_; rotate_left; (intro W hW; go_simp; with_reducible rfl)
        simp only [Act.put, List.setIfInBounds_toArray, List.set_cons_succ, List.set_cons_zero]
        refine flow_val (v := ?_) rfl ?_ ?_; rotate_left; (intro W hW; go_simp; with_reducible rfl)
        simp only [Act.put, List.setIfInBounds_toArray, List.set_cons_succ, List.set_cons_zero]
        intro W hW
        have HW := Lib.hid hW
        clear hW
        go_wp2
        go_roundw
        case rel => exact ⟨k + 1, by omega, by go_num, by rw [Hnx.out]; congr 1; rw [Int.max_def, Int.max_def]; (repeat' split) <;> omega, HS.out.after HW.out, HS2.out.after HW.out⟩
        case measure => simp [intOf]; omega
      · obtain rfl : k = es.length := by omega
        have HS := Lib.hid hsr
        rw [List.take_length]
        have Hz : Hid (es.foldl (skStep x.rounds) 0 = skewB x.rounds es) := rfl
        rw [Hz.out]
        clear hsr hsr2 hlt hk
        go_wp2
        go_ret2
        exact ⟨congrArg Ending.returned Hr.out.symm, Since.after Hb0.out HS.out⟩
end Go.Proofs.YtlfehdikgbgloaaGreat
