/- Parts of the proof: walks of functions and plain laws. -/
import Derived.Test.YtlfehdikgbgloaaGreatP9
import Derived.Test.YtlfehdikgbgloaaGreatP13
import Derived.Test.YtlfehdikgbgloaaGreatP10
import Derived.Test.YtlfehdikgbgloaaGreatP7
import Derived.Test.YtlfehdikgbgloaaGreatP15
namespace Go.Proofs.YtlfehdikgbgloaaGreat
open Go.RowKit
/-! the walk that grows finds the least lengths of ways -/
def dst (st : List Int × List Int) (x : Int) : Int := st.1.getD x.toNat 0
def wk (st : List Int × List Int) (j : Nat) : Int := st.2.getD j 0
theorem wk_mem {st : List Int × List Int} {j : Nat} (h : j < st.2.length) : wk st j ∈ st.2 := by
  unfold wk; rw [List.getD_eq_getElem?_getD, List.getElem?_eq_getElem h]; exact List.getElem_mem h
theorem mem_wk {st : List Int × List Int} {x : Int} (h : x ∈ st.2) : ∃ j, j < st.2.length ∧ wk st j = x := by
  obtain ⟨j, hj, e⟩ := List.mem_iff_getElem.1 h
  exact ⟨j, hj, by unfold wk; rw [List.getD_eq_getElem?_getD, List.getElem?_eq_getElem hj]; exact e⟩
structure BM (n : Net) (v : Nat) (st : List Int × List Int) (i : Nat) : Prop where
  bi : BI n.ends.length st
  mono : ∀ j j', j ≤ j' → j' < st.2.length → dst st (wk st j) ≤ dst st (wk st j')
  near : ∀ j, j < st.2.length → i < st.2.length → dst st (wk st j) ≤ dst st (wk st i) + 1
  pos : ∀ x ∈ st.2, 0 ≤ dst st x
  mem : ∀ x : Int, 0 ≤ x → x < n.ends.length → 0 ≤ dst st x → x ∈ st.2
  prev : ∀ x ∈ st.2, (x = v ∧ dst st x = 0) ∨ ∃ u ∈ st.2, x ∈ bsee n u ∧ dst st x = dst st u + 1
  done : ∀ j, j < i → ∀ x ∈ bsee n (wk st j), 0 ≤ dst st x ∧ dst st x ≤ dst st (wk st j) + 1
  self : (v : Int) ∈ st.2 ∧ dst st v = 0
structure Nxt (n : Net) (cur : Int) (i : Nat) (xs : List Int) (st st' : List Int × List Int) : Prop where
  lt : i < st'.2.length
  at_ : wk st' i = wk st i
  keep : ∀ y ∈ st.2, dst st' y = dst st y
  grow : ∀ y ∈ st.2, y ∈ st'.2
  seen : ∀ x ∈ xs, 0 ≤ dst st' x ∧ dst st' x ≤ dst st cur + 1
theorem BM.step {n : Net} (hn : netOk n = true) {v i : Nat} {st : List Int × List Int} (h : BM n v st i) (hi : i < st.2.length) {x : Int} (hx : 0 ≤ x ∧ x < n.ends.length) (hs : x ∈ bsee n (wk st i)) :
    BM n v (bstep (wk st i) st x) i ∧ Nxt n (wk st i) i [x] st (bstep (wk st i) st x) := by
  obtain ⟨cur, hcur⟩ : ∃ cur, cur = wk st i := ⟨_, rfl⟩
  have hcm : cur ∈ st.2 := by rw [hcur]; exact wk_mem hi
  have hcr := h.bi.walk cur hcm
  have hc0 := h.pos cur hcm
  have hbi := h.bi.step (cur := cur) (x := x) hcr hx
  rw [← hcur] at hs ⊢
  by_cases hneg : dst st x < 0
  · have e : bstep cur st x = (st.1.set x.toNat (dst st cur + 1), st.2 ++ [x]) := by unfold bstep; rw [if_pos (by exact hneg)]; rfl
    rw [e] at hbi ⊢
    obtain ⟨st', hst⟩ : ∃ st', st' = (st.1.set x.toNat (dst st cur + 1), st.2 ++ [x]) := ⟨_, rfl⟩
    rw [← hst] at hbi ⊢
    have hl : st'.2.length = st.2.length + 1 := by rw [hst]; simp
    have hw : ∀ j, j < st.2.length → wk st' j = wk st j := fun j hj => by
      rw [hst]; unfold wk
      simp only [List.getD_eq_getElem?_getD]
      rw [List.getElem?_append_left hj]
    have hwl : wk st' st.2.length = x := by rw [hst]; unfold wk; simp
    have hxl : x.toNat < st.1.length := by rw [h.bi.len]; omega
    have hdx : dst st' x = dst st cur + 1 := by rw [hst]; unfold dst; simp [List.getD_eq_getElem?_getD, hxl]
    have hdy : ∀ y ∈ st.2, dst st' y = dst st y := fun y hy => by
      have h0 := h.pos y hy
      have hyr := h.bi.walk y hy
      have hne : x.toNat ≠ y.toNat := fun e => by
        have : x = y := by omega
        subst this; omega
      rw [hst]
      unfold dst
      rw [List.getD_eq_getElem?_getD, List.getElem?_set_ne hne, ← List.getD_eq_getElem?_getD]
    have hdo : ∀ y, 0 ≤ y → y ≠ x → dst st' y = dst st y := fun y hy hne => by
      have : x.toNat ≠ y.toNat := fun e => by omega
      rw [hst]
      unfold dst
      rw [List.getD_eq_getElem?_getD, List.getElem?_set_ne this, ← List.getD_eq_getElem?_getD]
    have hmem : ∀ y, y ∈ st'.2 ↔ y ∈ st.2 ∨ y = x := fun y => by rw [hst]; simp
    have hold : ∀ j, j < st.2.length → dst st' (wk st' j) = dst st (wk st j) := fun j hj => by rw [hw j hj]; exact hdy _ (wk_mem hj)
    have hnew : dst st' (wk st' st.2.length) = dst st cur + 1 := by rw [hwl]; exact hdx
    have hci : dst st cur = dst st (wk st i) := by rw [hcur]
    refine ⟨⟨hbi, ?_, ?_, ?_, ?_, ?_, ?_, ?_⟩, ⟨by omega, hw i hi, hdy, fun y hy => (hmem y).2 (.inl hy), ?_⟩⟩
    · intro j j' hj hj'
      rw [hl] at hj'
      rcases Nat.lt_succ_iff_lt_or_eq.1 hj' with hj' | rfl
      · rw [hold j (by omega), hold j' hj']; exact h.mono j j' hj hj'
      · rw [hnew]
        rcases Nat.lt_or_eq_of_le hj with hj | rfl
        · rw [hold j hj]; have := h.near j hj hi; omega
        · rw [hnew]; exact Int.le_refl _
    · intro j hj _
      rw [hl] at hj
      rw [hold i hi]
      rcases Nat.lt_succ_iff_lt_or_eq.1 hj with hj | rfl
      · rw [hold j hj]; exact h.near j hj hi
      · rw [hnew]; omega
    · intro y hy
      rcases (hmem y).1 hy with hy | rfl
      · rw [hdy y hy]; exact h.pos y hy
      · rw [hdx]; omega
    · intro y h0 h1 h2
      by_cases e : y = x
      · exact (hmem y).2 (.inr e)
      · rw [hdo y h0 e] at h2
        exact (hmem y).2 (.inl (h.mem y h0 h1 h2))
    · intro y hy
      rcases (hmem y).1 hy with hy | rfl
      · rcases h.prev y hy with ⟨e1, e2⟩ | ⟨u, hu, e1, e2⟩
        · exact .inl ⟨e1, by rw [hdy y hy]; exact e2⟩
        · exact .inr ⟨u, (hmem u).2 (.inl hu), e1, by rw [hdy y hy, hdy u hu]; exact e2⟩
      · exact .inr ⟨cur, (hmem cur).2 (.inl hcm), hs, by rw [hdx, hdy cur hcm]⟩
    · intro j hj y hy
      have hjl : j < st.2.length := by omega
      rw [hw j hjl] at hy
      rw [hold j hjl]
      have h2 := h.done j hj y hy
      by_cases e : y = x
      · subst e; omega
      · rw [hdo y (see_in hn (h.bi.walk _ (wk_mem hjl)) y hy).1 e]; exact h2
    · exact ⟨(hmem _).2 (.inl h.self.1), by rw [hdy _ h.self.1]; exact h.self.2⟩
    · intro y hy
      rcases List.mem_singleton.1 hy with rfl
      rw [hdx]; omega
  · have e : bstep cur st x = st := by unfold bstep; rw [if_neg (by exact hneg)]
    rw [e]
    refine ⟨h, ⟨hi, rfl, fun _ _ => rfl, fun _ hy => hy, ?_⟩⟩
    intro y hy
    rcases List.mem_singleton.1 hy with rfl
    refine ⟨by omega, ?_⟩
    obtain ⟨j, hj, rfl⟩ := mem_wk (h.mem y hx.1 hx.2 (by omega))
    have := h.near j hj hi
    rw [hcur]; exact this
theorem BM.fold {n : Net} (hn : netOk n = true) {v i : Nat} (cur : Int) : ∀ (xs : List Int) {st : List Int × List Int}, BM n v st i → i < st.2.length → wk st i = cur → (∀ x ∈ xs, x ∈ bsee n cur) →
    BM n v (xs.foldl (bstep cur) st) i ∧ Nxt n cur i xs st (xs.foldl (bstep cur) st)
  | [], st, h, hi, _, _ => ⟨h, ⟨hi, rfl, fun _ _ => rfl, fun _ hy => hy, fun x hx => by simp at hx⟩⟩
  | x :: xs, st, h, hi, hc, hs => by
    subst hc
    have hcw := wk_mem hi
    have hx := see_in hn (h.bi.walk _ hcw) x (hs x (by simp))
    obtain ⟨h1, n1⟩ := h.step hn hi hx (hs x (by simp))
    obtain ⟨h2, n2⟩ := BM.fold hn (wk st i) xs h1 n1.lt n1.at_ (fun y hy => hs y (List.mem_cons_of_mem _ hy))
    rw [List.foldl_cons]
    have hk : ∀ y ∈ st.2, dst (xs.foldl (bstep (wk st i)) (bstep (wk st i) st x)) y = dst st y := fun y hy => by rw [n2.keep y (n1.grow y hy), n1.keep y hy]
    refine ⟨h2, ⟨n2.lt, by rw [n2.at_, n1.at_], hk, fun y hy => n2.grow y (n1.grow y hy), fun y hy => ?_⟩⟩
    have e1 := n1.keep _ hcw
    rcases List.mem_cons.1 hy with rfl | hy
    · have h3 := n1.seen y (by simp)
      have hm := h1.mem y hx.1 hx.2 h3.1
      rw [n2.keep y hm]
      exact h3
    · have := n2.seen y hy
      rw [e1] at this
      exact this
theorem BM.next {n : Net} (hn : netOk n = true) {v i : Nat} {st : List Int × List Int} (h : BM n v st i) (hi : i < st.2.length) : BM n v ((bsee n (wk st i)).foldl (bstep (wk st i)) st) (i + 1) := by
  obtain ⟨h1, n1⟩ := h.fold hn (wk st i) (bsee n (wk st i)) hi rfl (fun x hx => hx)
  have hcw := wk_mem hi
  have ek := n1.keep _ hcw
  refine { h1 with near := fun j hj hj2 => ?_, done := fun j hj x hx => ?_ }
  · have := h1.near j hj n1.lt
    have := h1.mono i (i + 1) (by omega) hj2
    omega
  · rcases Nat.lt_succ_iff_lt_or_eq.1 hj with hj | rfl
    · exact h1.done j hj x hx
    · rw [n1.at_] at hx ⊢
      rw [ek]
      exact n1.seen x hx
theorem BM.start {n : Net} {v : Nat} (hv : v < n.ends.length) : BM n v (bfsStart n v) 0 := by
  have hd : dst (bfsStart n v) v = 0 := by unfold dst bfsStart; simp [List.getD_eq_getElem?_getD, hv]
  have hm : ∀ x, x ∈ (bfsStart n v).2 ↔ x = v := fun x => by simp [bfsStart]
  have hl : (bfsStart n v).2.length = 1 := by simp [bfsStart]
  have hw : wk (bfsStart n v) 0 = v := by simp [wk, bfsStart]
  refine ⟨BI.start hv, ?_, ?_, ?_, ?_, ?_, fun j hj => absurd hj (Nat.not_lt_zero _), ⟨(hm _).2 rfl, hd⟩⟩
  · intro j j' hj hj'
    rw [hl] at hj'
    obtain rfl : j' = 0 := by omega
    obtain rfl : j = 0 := by omega
    exact Int.le_refl _
  · intro j hj _
    rw [hl] at hj
    obtain rfl : j = 0 := by omega
    omega
  · intro x hx; rw [(hm x).1 hx, hd]; exact Int.le_refl _
  · intro x h0 h1 h2
    rw [hm]
    apply Classical.byContradiction
    intro hne
    have : v ≠ x.toNat := fun e => by omega
    have hxl : x.toNat < n.ends.length := by omega
    have e : dst (bfsStart n v) x = -1 := by
      unfold dst bfsStart
      rw [List.getD_eq_getElem?_getD, List.getElem?_set_ne this]
      simp [hxl]
    omega
  · intro x hx; exact .inl ⟨(hm x).1 hx, by rw [(hm x).1 hx]; exact hd⟩
/-- what the distances from v are known by -/
structure Dist (n : Net) (v : Nat) (ds : List Int) : Prop where
  len : ds.length = n.ends.length
  lo : ∀ x : Int, 0 ≤ x → x < n.ends.length → -1 ≤ ds.getD x.toNat 0
  self : ds.getD v 0 = 0
  next : ∀ u x : Int, 0 ≤ u → u < n.ends.length → x ∈ bsee n u → 0 ≤ ds.getD u.toNat 0 → 0 ≤ ds.getD x.toNat 0 ∧ ds.getD x.toNat 0 ≤ ds.getD u.toNat 0 + 1
  prev : ∀ x : Int, 0 ≤ x → x < n.ends.length → 0 ≤ ds.getD x.toNat 0 → (x = v ∧ ds.getD x.toNat 0 = 0) ∨ ∃ u : Int, 0 ≤ u ∧ u < n.ends.length ∧ x ∈ bsee n u ∧ 0 ≤ ds.getD u.toNat 0 ∧ ds.getD x.toNat 0 = ds.getD u.toNat 0 + 1
theorem BM.dist {n : Net} {v i : Nat} {st : List Int × List Int} (h : BM n v st i) (hi : st.2.length ≤ i) : Dist n v st.1 where
  len := h.bi.len
  lo := fun x h0 h1 => by
    have hx : x.toNat < st.1.length := by rw [h.bi.len]; omega
    rw [List.getD_eq_getElem?_getD, List.getElem?_eq_getElem hx]
    exact (h.bi.val _ (List.getElem_mem hx)).1
  self := h.self.2
  next := fun u x h0 h1 hx hu => by
    obtain ⟨j, hj, rfl⟩ := mem_wk (h.mem u h0 h1 hu)
    exact h.done j (by omega) x hx
  prev := fun x h0 h1 hx => by
    rcases h.prev x (h.mem x h0 h1 hx) with ⟨e1, e2⟩ | ⟨u, hu, e1, e2⟩
    · exact .inl ⟨e1, e2⟩
    · have := h.bi.walk u hu
      exact .inr ⟨u, this.1, this.2, e1, h.pos u hu, e2⟩
/-- a way of k steps from u to x -/
inductive Way (n : Net) (u : Int) : Nat → Int → Prop
  | here : 0 ≤ u → u < n.ends.length → Way n u 0 u
  | step {k : Nat} {y x : Int} : Way n u k y → x ∈ bsee n y → Way n u (k + 1) x
theorem Way.range {n : Net} (hn : netOk n = true) {u x : Int} {k : Nat} (h : Way n u k x) : 0 ≤ x ∧ x < n.ends.length := by
  induction h with
  | here h0 h1 => exact ⟨h0, h1⟩
  | step _ hx ih => exact see_in hn ih _ hx
theorem Way.start {n : Net} {u x : Int} {k : Nat} (h : Way n u k x) : 0 ≤ u ∧ u < n.ends.length := by
  induction h with
  | here h0 h1 => exact ⟨h0, h1⟩
  | step _ _ ih => exact ih
theorem Dist.way {n : Net} {v : Nat} {ds : List Int} (h : Dist n v ds) (hv : v < n.ends.length) : ∀ (k : Nat) (x : Int), 0 ≤ x → x < n.ends.length → ds.getD x.toNat 0 = k → Way n v k x
  | 0, x, h0, h1, e => by
    rcases h.prev x h0 h1 (by omega) with ⟨e1, e2⟩ | ⟨u, hu0, hu1, hx, hp, e2⟩
    · subst e1; exact .here h0 h1
    · omega
  | k + 1, x, h0, h1, e => by
    rcases h.prev x h0 h1 (by omega) with ⟨e1, e2⟩ | ⟨u, hu0, hu1, hx, hp, e2⟩
    · omega
    · exact .step (h.way hv k u hu0 hu1 (by omega)) hx
end Go.Proofs.YtlfehdikgbgloaaGreat
namespace Go.Proofs.YtlfehdikgbgloaaGreat
open Go.RowKit
-- the distances from the nearest roots
-- the program's way: from each root to all nodes
-- the greedy colours
theorem plain_row {n : Net} (h : plainB n = true) {v : Nat} (hv : v < n.ends.length) : ∀ x ∈ bsee n v, x ≠ (v : Int) := by
  unfold plainB at h
  rw [List.all_eq_true] at h
  have := h v (List.mem_range.2 hv)
  intro x hx e
  subst e
  unfold hasB at this
  simp at this
  exact this hx
-- the greedy set
-- the greedy matching
def mSpec (out : List Int) (e : Ed) : List Int := if out.getD e.1.toNat 0 = 0 ∧ out.getD e.2.2.1.toNat 0 = 0 then (out.set e.1.toNat (e.2.1 + 1)).set e.2.2.1.toNat (e.2.2.2 + 1) else out
def mImpl (m : List Int) (e : Ed) : List Int := if e.1 ≠ e.2.2.1 ∧ m.getD e.1.toNat 0 < 0 ∧ m.getD e.2.2.1.toNat 0 < 0 then (m.set e.1.toNat e.2.1).set e.2.2.1.toNat e.2.2.2 else m
end Go.Proofs.YtlfehdikgbgloaaGreat
namespace Go.Proofs.YtlfehdikgbgloaaGreat
open Go.RowKit
-- the greedy matching: the two ways agree
def edLt (a b : Ed) : Prop := a.1 < b.1 ∨ (a.1 = b.1 ∧ a.2.1 < b.2.1)
theorem edges_mem {n : Net} {x : Ed} (h : x ∈ edgesB n) : ∃ v i : Nat, v < n.ends.length ∧ i < (rowOf n v).length ∧ keepE v i ((rowOf n v).getD i (0, 0)) = true ∧ x = ((v : Int), (i : Int), ((rowOf n v).getD i (0, 0)).1, ((rowOf n v).getD i (0, 0)).2) := by
  unfold edgesB edgesTo erow eone at h
  obtain ⟨v, hv, h⟩ := List.mem_flatMap.1 h
  obtain ⟨i, hi, h⟩ := List.mem_flatMap.1 h
  split at h
  · rename_i hk
    exact ⟨v, i, List.mem_range.1 hv, List.mem_range.1 hi, hk, List.mem_singleton.1 h⟩
  · simp at h
theorem edges_in {n : Net} {v i : Nat} (hv : v < n.ends.length) (hi : i < (rowOf n v).length) (hk : keepE v i ((rowOf n v).getD i (0, 0)) = true) : ((v : Int), (i : Int), ((rowOf n v).getD i (0, 0)).1, ((rowOf n v).getD i (0, 0)).2) ∈ edgesB n := by
  unfold edgesB edgesTo erow eone
  exact List.mem_flatMap.2 ⟨v, List.mem_range.2 hv, List.mem_flatMap.2 ⟨i, List.mem_range.2 hi, by rw [if_pos hk]; exact List.mem_singleton.2 rfl⟩⟩
theorem eone_mem {v i : Nat} {e : Int × Int} {x : Ed} (h : x ∈ eone v i e) : x.1 = v ∧ x.2.1 = i := by
  unfold eone at h
  split at h
  · rw [List.mem_singleton.1 h]; exact ⟨rfl, rfl⟩
  · simp at h
theorem edges_sorted (n : Net) : (edgesB n).Pairwise edLt := by
  unfold edgesB edgesTo
  rw [List.pairwise_flatMap]
  refine ⟨fun v _ => ?_, List.pairwise_lt_range.imp fun {u v} h x hx y hy => ?_⟩
  · unfold erow
    rw [List.pairwise_flatMap]
    refine ⟨fun i _ => ?_, List.pairwise_lt_range.imp fun {i j} h x hx y hy => ?_⟩
    · unfold eone
      split <;> simp
    · have := eone_mem hx
      have := eone_mem hy
      right
      omega
  · unfold erow at hx hy
    obtain ⟨i, -, hx⟩ := List.mem_flatMap.1 hx
    obtain ⟨j, -, hy⟩ := List.mem_flatMap.1 hy
    have := eone_mem hx
    have := eone_mem hy
    left
    omega
theorem pre_mem {n : Net} {L R : List Ed} {e x : Ed} (h : edgesB n = L ++ e :: R) (hx : x ∈ edgesB n) (hl : edLt x e) : x ∈ L := by
  have hs := edges_sorted n
  rw [h] at hs hx
  rw [List.pairwise_append, List.pairwise_cons] at hs
  rcases List.mem_append.1 hx with hx | hx
  · exact hx
  · rcases List.mem_cons.1 hx with rfl | hx
    · unfold edLt at hl; omega
    · have := hs.2.1.1 x hx
      unfold edLt at this hl; omega
def portB (n : Net) (v : Nat) (w : Int) : Int := eidx (fun e => e.1 == w) (rowOf n v)
structure MI (n : Net) (L : List Ed) (m s : List Int) : Prop where
  lm : m.length = n.ends.length
  ls : s.length = n.ends.length
  sum : ∀ v, v < n.ends.length → s.getD v 0 = m.getD v 0 + 1 ∧ -1 ≤ m.getD v 0
  mate : ∀ v, v < n.ends.length → 0 ≤ m.getD v 0 → ∃ w : Nat, w < n.ends.length ∧ w ≠ v ∧ m.getD v 0 < (rowOf n v).length ∧ (rowOf n v).getD (m.getD v 0).toNat (0, 0) = ((w : Int), m.getD w 0) ∧ 0 ≤ m.getD w 0 ∧ (rowOf n w).getD (m.getD w 0).toNat (0, 0) = ((v : Int), m.getD v 0) ∧ (v < w → portB n v w = m.getD v 0)
  past : ∀ x ∈ L, 0 ≤ m.getD x.1.toNat 0 ∨ 0 ≤ m.getD x.2.2.1.toNat 0
theorem getD_set_ne {l : List Int} {a b : Nat} {x : Int} (h : a ≠ b) : (l.set a x).getD b 0 = l.getD b 0 := by
  rw [List.getD_eq_getElem?_getD, List.getElem?_set_ne h, ← List.getD_eq_getElem?_getD]
theorem getD_set_eq {l : List Int} {a : Nat} {x : Int} (h : a < l.length) : (l.set a x).getD a 0 = x := by
  simp [List.getD_eq_getElem?_getD, h]
theorem row_back {n : Net} (hn : netOk n = true) {v i : Nat} (hv : v < n.ends.length) (hi : i < (rowOf n v).length) :
    ∃ w j : Nat, (rowOf n v).getD i (0, 0) = ((w : Int), (j : Int)) ∧ w < n.ends.length ∧ j < (rowOf n w).length ∧ (rowOf n w).getD j (0, 0) = ((v : Int), (i : Int)) := by
  have hp : hasPortB n.ends v i = true := by
    unfold hasPortB inB
    unfold rowOf at hi
    simp only [Bool.and_eq_true, decide_eq_true_eq, Int.toNat_natCast]
    omega
  obtain ⟨hp2, e2⟩ := netOk_end hn hp
  obtain ⟨e, he⟩ : ∃ e, e = endAt n.ends v i := ⟨_, rfl⟩
  rw [← he] at hp2 e2
  have he2 : (rowOf n v).getD i (0, 0) = e := by rw [he]; unfold endAt rowOf; rw [Int.toNat_natCast, Int.toNat_natCast]
  obtain ⟨q1, q2⟩ : (0 ≤ e.1 ∧ e.1 < n.ends.length) ∧ (0 ≤ e.2 ∧ e.2 < (n.ends.getD e.1.toNat []).length) := by
    unfold hasPortB inB at hp2
    simp only [Bool.and_eq_true, decide_eq_true_eq] at hp2
    omega
  refine ⟨e.1.toNat, e.2.toNat, ?_, by omega, by unfold rowOf; omega, ?_⟩
  · rw [he2]
    apply Prod.ext
    · show e.1 = _; omega
    · show e.2 = _; omega
  · unfold endAt at e2; unfold rowOf; exact e2
theorem port_first {n : Net} {v i : Nat} {w : Int} (hi : i < (rowOf n v).length) (hw : ((rowOf n v).getD i (0, 0)).1 = w) (hno : ∀ j, j < i → ((rowOf n v).getD j (0, 0)).1 ≠ w) : portB n v w = i := by
  have : (rowOf n v).findIdx? (fun e => e.1 == w) = some i := by
    rw [List.findIdx?_eq_some_iff_getElem]
    have e : ∀ j (h : j < (rowOf n v).length), (rowOf n v)[j] = (rowOf n v).getD j (0, 0) := fun j h => by rw [List.getD_eq_getElem?_getD, List.getElem?_eq_getElem h]; rfl
    refine ⟨hi, by rw [e i hi]; simpa using hw, fun j hj => ?_⟩
    rw [e j (by omega)]
    simpa using hno j hj
  unfold portB eidx
  rw [this]
theorem MI.step {n : Net} (hn : netOk n = true) (hp : plainB n = true) {L R : List Ed} {e : Ed} (hL : edgesB n = L ++ e :: R) {m s : List Int} (h : MI n L m s) : MI n (L ++ [e]) (mImpl m e) (mSpec s e) := by
  have he : e ∈ edgesB n := by rw [hL]; simp
  obtain ⟨v, i, hv, hi, hk, rfl⟩ := edges_mem he
  obtain ⟨w, j, e1, hw, hj, e2⟩ := row_back hn hv hi
  rw [e1] at hk hL ⊢
  have hne : w ≠ v := fun e => by
    subst e
    refine plain_row hp hv (w : Int) ?_ rfl
    unfold bsee
    rw [Int.toNat_natCast]
    refine List.mem_map.2 ⟨(rowOf n w).getD i (0, 0), ?_, by rw [e1]⟩
    show (rowOf n w).getD i (0, 0) ∈ rowOf n w
    rw [List.getD_eq_getElem?_getD, List.getElem?_eq_getElem hi]
    exact List.getElem_mem hi
  have hvw : v < w := by
    unfold keepE at hk
    simp only [Bool.or_eq_true, Bool.and_eq_true, decide_eq_true_eq, beq_iff_eq] at hk
    omega
  have s1 := h.sum v hv
  have s2 := h.sum w hw
  unfold mImpl mSpec
  simp only [Int.toNat_natCast]
  by_cases hc : m.getD v 0 < 0 ∧ m.getD w 0 < 0
  · rw [if_pos ⟨by omega, hc⟩, if_pos (by omega)]
    have lv : v < m.length := by rw [h.lm]; exact hv
    have lw : w < m.length := by rw [h.lm]; exact hw
    have lv' : v < s.length := by rw [h.ls]; exact hv
    have lw' : w < s.length := by rw [h.ls]; exact hw
    have qv : ((m.set v (i : Int)).set w (j : Int)).getD v 0 = i := by rw [getD_set_ne hne, getD_set_eq lv]
    have qw : ((m.set v (i : Int)).set w (j : Int)).getD w 0 = j := getD_set_eq (by rw [List.length_set]; exact lw)
    have go : ∀ u, u ≠ v → u ≠ w → ((m.set v (i : Int)).set w (j : Int)).getD u 0 = m.getD u 0 := fun u h1 h2 => by rw [getD_set_ne (Ne.symm h2), getD_set_ne (Ne.symm h1)]
    have qv' : ((s.set v ((i : Int) + 1)).set w ((j : Int) + 1)).getD v 0 = (i : Int) + 1 := by rw [getD_set_ne hne, getD_set_eq lv']
    have qw' : ((s.set v ((i : Int) + 1)).set w ((j : Int) + 1)).getD w 0 = (j : Int) + 1 := getD_set_eq (by rw [List.length_set]; exact lw')
    have go' : ∀ u, u ≠ v → u ≠ w → ((s.set v ((i : Int) + 1)).set w ((j : Int) + 1)).getD u 0 = s.getD u 0 := fun u h1 h2 => by rw [getD_set_ne (Ne.symm h2), getD_set_ne (Ne.symm h1)]
    have hfirst : portB n v w = i := by
      refine port_first hi (by rw [e1]) fun j' hj' hb => ?_
      have hk' : keepE v j' ((rowOf n v).getD j' (0, 0)) = true := by
        unfold keepE
        rw [hb]
        simp only [Bool.or_eq_true, decide_eq_true_eq]
        left; omega
      have hm := edges_in hv (show j' < (rowOf n v).length by omega) hk'
      have hin := pre_mem hL hm (.inr ⟨rfl, by show (j' : Int) < (i : Int); omega⟩)
      have := h.past _ hin
      simp only [hb, Int.toNat_natCast] at this
      omega
    have hml : ((m.set v (i : Int)).set w (j : Int)).length = n.ends.length := by simp [h.lm]
    generalize (m.set v (i : Int)).set w (j : Int) = m' at *
    refine ⟨hml, by simp [h.ls], fun u hu => ?_, fun u hu h0 => ?_, fun x hx => ?_⟩
    · by_cases u1 : u = v
      · subst u1; rw [qv, qv']; omega
      · by_cases u2 : u = w
        · subst u2; rw [qw, qw']; omega
        · rw [go u u1 u2, go' u u1 u2]; exact h.sum u hu
    · by_cases u1 : u = v
      · subst u1
        refine ⟨w, hw, hne, by rw [qv]; omega, by rw [qv, qw, Int.toNat_natCast]; exact e1, by rw [qw]; omega, by rw [qw, qv, Int.toNat_natCast]; exact e2, fun _ => by rw [qv]; exact hfirst⟩
      · by_cases u2 : u = w
        · subst u2
          exact ⟨v, hv, fun e => u1 e.symm, by rw [qw]; omega, by rw [qv, qw, Int.toNat_natCast]; exact e2, by rw [qv]; omega, by rw [qw, qv, Int.toNat_natCast]; exact e1, fun hlt => by omega⟩
        · rw [go u u1 u2] at h0 ⊢
          obtain ⟨x, x1, x2, x3, x4, x5, x6, x7⟩ := h.mate u hu h0
          have y1 : x ≠ v := fun e => by subst e; omega
          have y2 : x ≠ w := fun e => by subst e; omega
          exact ⟨x, x1, x2, x3, by rw [go x y1 y2]; exact x4, by rw [go x y1 y2]; exact x5, by rw [go x y1 y2]; exact x6, x7⟩
    · have mono : ∀ u, 0 ≤ m.getD u 0 → 0 ≤ m'.getD u 0 := fun u hu => by
        by_cases u1 : u = v
        · subst u1; omega
        · by_cases u2 : u = w
          · subst u2; omega
          · rw [go u u1 u2]; exact hu
      rcases List.mem_append.1 hx with hx | hx
      · rcases h.past x hx with h1 | h1
        · exact .inl (mono _ h1)
        · exact .inr (mono _ h1)
      · rw [List.mem_singleton.1 hx]
        left
        show 0 ≤ m'.getD ((v : Int)).toNat 0
        rw [Int.toNat_natCast, qv]; omega
  · rw [if_neg (fun hh => hc hh.2), if_neg (by omega)]
    refine { h with past := fun x hx => ?_ }
    rcases List.mem_append.1 hx with hx | hx
    · exact h.past x hx
    · rw [List.mem_singleton.1 hx]
      show 0 ≤ m.getD ((v : Int)).toNat 0 ∨ 0 ≤ m.getD ((w : Int)).toNat 0
      rw [Int.toNat_natCast, Int.toNat_natCast]; omega
theorem MI.fold {n : Net} (hn : netOk n = true) (hp : plainB n = true) : ∀ (R L : List Ed) {m s : List Int}, edgesB n = L ++ R → MI n L m s → MI n (edgesB n) (R.foldl mImpl m) (R.foldl mSpec s)
  | [], L, m, s, hL, h => by rw [hL, List.append_nil]; exact h
  | e :: R, L, m, s, hL, h => MI.fold hn hp R (L ++ [e]) (by rw [hL, List.append_assoc]; rfl) (h.step hn hp hL)
-- the states out of the matching, as the program makes them
end Go.Proofs.YtlfehdikgbgloaaGreat
namespace Go.Proofs.YtlfehdikgbgloaaGreat
open Go.RowKit
/-! the program's search -/
section
variable {W W' : World} {B : Nat} {ve vi vn va vl : Value}
end
end Go.Proofs.YtlfehdikgbgloaaGreat
namespace Go.Proofs.YtlfehdikgbgloaaGreat
open Go.RowKit
end Go.Proofs.YtlfehdikgbgloaaGreat
namespace Go.Proofs.YtlfehdikgbgloaaGreat
open Go.RowKit
end Go.Proofs.YtlfehdikgbgloaaGreat
namespace Go.Proofs.YtlfehdikgbgloaaGreat
open Go.RowKit
theorem Own.at {W : World} {base n c k : Nat} {A : Option Addr} {xs : List Int} {x : Int} (h : Own W base (.slice A n c) xs) (hx : xs[k]? = some x) : ∃ b off, A = some ⟨b, off, none⟩ ∧ W.cell? ⟨b, off + k, none⟩ = some (.int .i64 x) := by
  obtain ⟨A', c', e, _, _, hc⟩ := h.ints
  cases e
  exact hc k x hx
-- the reference's way
end Go.Proofs.YtlfehdikgbgloaaGreat
namespace Go.Proofs.YtlfehdikgbgloaaGreat
open Go.RowKit
theorem row_net {n : Net} (hn : netOk n = true) {v : Nat} (hv : v < n.ends.length) : n.ends[v]? = some (rowOf n v) ∧ (rowOf n v).length ≤ 6 ∧ ∀ e ∈ rowOf n v, (0 ≤ e.1 ∧ e.1 < n.ends.length) ∧ 0 ≤ e.2 ∧ e.2 ≤ 5 := by
  obtain ⟨es, hes⟩ := getx n.ends v hv
  have hr := netOk_row hn hes
  have e : rowOf n v = es := getD_of hes
  rw [e]
  exact ⟨hes, hr.1, fun x hx => row_bd hn hes hx⟩
-- the reference
end Go.Proofs.YtlfehdikgbgloaaGreat
namespace Go.Proofs.YtlfehdikgbgloaaGreat
open Go.RowKit
end Go.Proofs.YtlfehdikgbgloaaGreat
namespace Go.Proofs.YtlfehdikgbgloaaGreat
open Go.RowKit
end Go.Proofs.YtlfehdikgbgloaaGreat
namespace Go.Proofs.YtlfehdikgbgloaaGreat
open Go.RowKit
end Go.Proofs.YtlfehdikgbgloaaGreat
namespace Go.Proofs.YtlfehdikgbgloaaGreat
open Go.RowKit
set_option maxHeartbeats 1600000 in
theorem neFirst_any (ve vi vn : Value) (n : Net) (v i : Nat) (x1 x2 : Int) (w : World) (h : NetIn w ve vi vn n) (hn : netOk n = true) (hv : v < n.ends.length) (hx : (rowOf n v)[i]? = some (x1, x2)) :
    Calls Tryz.prog 154 #[.agg #[ve, vi, vn], .int .i64 v, .int .i64 i] w fun e w' => e = .returned (.bool (keepE v i (x1, x2))) ∧ Below w.heap.size w w' := by
  have hnl := netOk_len hn
  obtain ⟨w0, hw0⟩ : ∃ w0, w0 = (w).alloc (.cells #[ve, vi, vn] 31) := ⟨_, rfl⟩
  have hb0 : Below w.heap.size w w0 := by rw [hw0]; exact ((Below.refl _ _).alloc (by simp) _)
  have H := Lib.hid (h.keep hb0)
  obtain ⟨h1, h2, h3⟩ := h.keep hb0
  obtain ⟨A, c, rfl, hlc, hm, hA⟩ := h1
  obtain ⟨A2, c2, rfl, _, hm2, _⟩ := h2
  obtain ⟨A3, c3, rfl, _, hm3, _⟩ := h3
  unfold maxLen at hm hm2 hm3
  have p00 : ∀ W, Since w0 W → W.cell? ⟨w.heap.size, 0, none⟩ = some (.slice A n.ends.length c) := have_cell (by rw [hw0]; simp)
  have p01 : ∀ W, Since w0 W → W.cell? ⟨w.heap.size, 1, none⟩ = some (.slice A2 n.ids.length c2) := have_cell (by rw [hw0]; simp)
  have p02 : ∀ W, Since w0 W → W.cell? ⟨w.heap.size, 2, none⟩ = some (.slice A3 n.inputs.length c3) := have_cell (by rw [hw0]; simp)
  have Hb0 := Lib.hid hb0
  have Hw0 := Lib.hid hw0
  have HA := Lib.hid hA
  clear hA h
  clear hb0 hw0
  obtain ⟨row1, row2, row3⟩ := row_net hn hv
  obtain ⟨es, hes⟩ : ∃ es, es = rowOf n v := ⟨_, rfl⟩
  rw [← hes] at row1 row2 row3 hx
  have hil := lt_of_get hx
  obtain ⟨b, offr, cr, ur, hA1, hkr, hc1, hrow⟩ := row_at H.out.es row1
  cases hA1
  have tr := have_cell hc1
  obtain ⟨A1, z1, rfl, hz1, hz2, hA1⟩ := hrow
  unfold maxLen at hz2
  obtain ⟨b1, off1, rfl, hd1, hd2⟩ := hA1 i _ hx
  have t1 := have_cell hd1
  have t2 := have_cell hd2
  obtain ⟨w1, hw1⟩ : ∃ w1, w1 = w0.alloc (.cells #[.int .i64 x1, .int .i64 x2] 96) := ⟨_, rfl⟩
  have Hw1 := Lib.hid hw1
  have hs1 : Since w0 w1 := by rw [hw1]; exact since_alloc _ (since_refl _)
  have q0 : ∀ W, Since w1 W → W.cell? ⟨w0.heap.size, 0, none⟩ = some (.int .i64 x1) := have_cell (by rw [hw1]; simp)
  have q1 : ∀ W, Since w1 W → W.cell? ⟨w0.heap.size, 1, none⟩ = some (.int .i64 x2) := have_cell (by rw [hw1]; simp)
  have Hs1 := Lib.hid hs1
  have hs0 : Since w0 w0 := since_refl _
  have HR : Hid (keepE v i (x1, x2) = (decide ((v : Int) < x1) || (((v : Int) == x1) && decide ((i : Int) ≤ x2)))) := rfl
  clear row1 row2 row3 hes hx hc1 hd1 hd2 hA1 hn hw1 hs1
  go_enter Tryz.func154, Tryz.ntmps154
  go_upto_region 1 with (fail)
  rw [← Hw0.out]
  go_upto_region 2 with (fail)
  rw [← Hw1.out]
  clear p00 p01 p02 tr t1 t2 hs0
  refine wp_region_flow0 17 (Since w1) (since_refl _) ?_
  simp only [List.take_succ_cons, List.take_zero, List.drop_succ_cons, List.drop_zero]
  refine flow_val (v := ?_) rfl ?_ ?_; rotate_left; (intro W hW; go_simp; with_reducible rfl)
  simp only [Act.put, List.setIfInBounds_toArray, List.set_cons_succ, List.set_cons_zero]
  refine flow_val (v := ?_) rfl ?_ ?_; rotate_left; (intro W hW; go_simp; with_reducible rfl)
  simp only [Act.put, List.setIfInBounds_toArray, List.set_cons_succ, List.set_cons_zero]
  refine flow_val (v := ?_) rfl ?_ ?_; rotate_left; (intro W hW; go_simp; with_reducible rfl)
  simp only [Act.put, List.setIfInBounds_toArray, List.set_cons_succ, List.set_cons_zero]
  refine flow_val (v := ?_) rfl ?_ ?_; rotate_left; (intro W hW; go_simp; with_reducible rfl)
  simp only [Act.put, List.setIfInBounds_toArray, List.set_cons_succ, List.set_cons_zero]
  refine flow_val (v := ?_) rfl ?_ ?_; rotate_left; (intro W hW; go_simp; with_reducible rfl)
  simp only [Act.put, List.setIfInBounds_toArray, List.set_cons_succ, List.set_cons_zero]
  refine flow_gval (v := ?_) rfl rfl ?_ ?_; rotate_left; (intro hb; intro W hW; go_simp; with_reducible rfl)
  simp only [Act.put, List.setIfInBounds_toArray, List.set_cons_succ, List.set_cons_zero]
  refine flow_gval (v := ?_) rfl rfl ?_ ?_; rotate_left; (intro hb; intro W hW; go_simp; with_reducible rfl)
  simp only [Act.put, List.setIfInBounds_toArray, List.set_cons_succ, List.set_cons_zero]
  refine flow_gval (v := ?_) rfl rfl ?_ ?_; rotate_left; (intro hb; intro W hW; go_simp; with_reducible rfl)
  simp only [Act.put, List.setIfInBounds_toArray, List.set_cons_succ, List.set_cons_zero]
  refine flow_gval (v := ?_) rfl rfl ?_ ?_; rotate_left; (intro hb; intro W hW; go_simp; with_reducible rfl)
  simp only [Act.put, List.setIfInBounds_toArray, List.set_cons_succ, List.set_cons_zero]
  refine flow_gval (v := ?_) rfl rfl ?_ ?_; rotate_left; (intro hb; intro W hW; go_simp; with_reducible rfl)
  simp only [Act.put, List.setIfInBounds_toArray, List.set_cons_succ, List.set_cons_zero]
  refine flow_gval2 (v := ?_) rfl rfl ?_ ?_; rotate_left; (intro hb hb2; intro W hW; go_simp; with_reducible rfl)
  simp only [Act.put, List.setIfInBounds_toArray, List.set_cons_succ, List.set_cons_zero]
  refine flow_gval2 (v := ?_) rfl rfl ?_ ?_; rotate_left; (intro hb hb2; intro W hW; go_simp; with_reducible rfl)
  simp only [Act.put, List.setIfInBounds_toArray, List.set_cons_succ, List.set_cons_zero]
  refine flow_gval2 (v := ?_) rfl rfl ?_ ?_; rotate_left; (intro hb hb2; intro W hW; go_simp; with_reducible rfl)
  simp only [Act.put, List.setIfInBounds_toArray, List.set_cons_succ, List.set_cons_zero]
  refine flow_gval2 (v := ?_) rfl rfl ?_ ?_; rotate_left; (intro hb hb2; intro W hW; go_simp; with_reducible rfl)
  simp only [Act.put, List.setIfInBounds_toArray, List.set_cons_succ, List.set_cons_zero]
  refine flow_gand rfl rfl rfl ?_
  simp only [Act.put, List.setIfInBounds_toArray, List.set_cons_succ, List.set_cons_zero]
  first | refine flow_or rfl rfl ?_ | (refine flow_val (v := ?_) rfl ?_ ?_; rotate_left; (intro W hW; go_simp; with_reducible rfl))
  simp only [Act.put, List.setIfInBounds_toArray, List.set_cons_succ, List.set_cons_zero]
  refine flow_val (v := ?_) rfl ?_ ?_; rotate_left; (intro W hW; go_simp; with_reducible rfl)
  simp only [Act.put, List.setIfInBounds_toArray, List.set_cons_succ, List.set_cons_zero]
  intro W hW
  have HW := Lib.hid hW
  clear hW
  go_wp2
  go_ret
  exact ⟨congrArg (fun b => Ending.returned (.bool b)) HR.out.symm, Since.after Hb0.out (Hs1.out.after HW.out)⟩
-- lists of lists of four numbers
theorem row_info : (Tryz.prog.info? 23).map (fun i => (i.zero, i.size, i.bytes)) = some (some (.slice none 0 0), 1, 24) := by kernel_rfl
def four (x : Ed) : Obj := .cells #[.int .i64 x.1, .int .i64 x.2.1, .int .i64 x.2.2.1, .int .i64 x.2.2.2] 3
def rowV (b : Nat) : Value := .slice (some ⟨b, 0, none⟩) 4 4
def OwnL (W : World) (base : Nat) (u : Value) (L : List Ed) : Prop :=
  ∃ bs : List Nat, bs.length = L.length ∧ W.ownsRow base 23 1 u L.length (bs.map rowV) ∧ ∀ (k : Nat) (x : Ed) (b : Nat), L[k]? = some x → bs[k]? = some b → base ≤ b ∧ W.heap[b]? = some (four x) ∧ u.ownBlock ≠ some b
theorem ownL_nil (W : World) (base : Nat) : OwnL W base (.slice none 0 0) [] := ⟨[], rfl, World.ownsRow_nil W base _ _, fun k x b hx => by simp at hx⟩
theorem OwnL.stable {W W' : World} {base : Nat} {u : Value} {L : List Ed} (h : OwnL W base u L) (hk : ∀ j, base ≤ j → j < W.heap.size → W'.heap[j]? = W.heap[j]?) : OwnL W' base u L := by
  obtain ⟨bs, h1, h2, h3⟩ := h
  refine ⟨bs, h1, ownsRow_stable h2 fun j hj => hk j (World.ownsRow.lt h2 j (by simpa using hj)).1 (World.ownsRow.lt h2 j (by simpa using hj)).2, fun k x b hx hb => ?_⟩
  obtain ⟨q1, q2, q3⟩ := h3 k x b hx hb
  exact ⟨q1, by rw [hk b q1 (Array.getElem?_eq_some_iff.1 q2).1]; exact q2, q3⟩
theorem OwnL.keep {W W' : World} {base : Nat} {u : Value} {L : List Ed} (h : OwnL W base u L) (hs : Since W W') : OwnL W' base u L := h.stable fun j _ hj => hs.below.block j hj
theorem OwnL.at {W : World} {base : Nat} {u : Value} {L : List Ed} (h : OwnL W base u L) : (∃ A c, u = .slice A L.length c ∧ L.length ≤ c ∧ c ≤ maxLen) ∧ ∀ (k : Nat) (x : Ed), L[k]? = some x → ∃ g c b, u = .slice (some ⟨g, 0, none⟩) L.length c ∧ W.cell? ⟨g, k, none⟩ = some (rowV b) ∧ base ≤ b ∧ W.cell? ⟨b, 0, none⟩ = some (.int .i64 x.1) ∧ W.cell? ⟨b, 1, none⟩ = some (.int .i64 x.2.1) ∧ W.cell? ⟨b, 2, none⟩ = some (.int .i64 x.2.2.1) ∧ W.cell? ⟨b, 3, none⟩ = some (.int .i64 x.2.2.2) := by
  obtain ⟨bs, h1, h2, h3⟩ := h
  have h' := h2
  rcases h2.2 with ⟨rfl, hn⟩ | ⟨g, cap, cur, rfl, hb, hg, hnc, hcm, hsz, htk⟩
  · have : L = [] := List.eq_nil_of_length_eq_zero hn
    subst this
    exact ⟨⟨none, 0, rfl, Nat.le_refl _, Nat.zero_le _⟩, fun k x hk => by simp at hk⟩
  · refine ⟨⟨_, cap, rfl, hnc, hcm⟩, fun k x hk => ?_⟩
    have hkl := lt_of_get hk
    obtain ⟨b, hbk⟩ : ∃ b, bs[k]? = some b := ⟨_, List.getElem?_eq_getElem (by omega)⟩
    obtain ⟨q1, q2, q3⟩ := h3 k x b hk hbk
    refine ⟨g, cap, b, rfl, ?_, q1, ?_⟩
    · rw [World.ownsRow.cellAt (cap := cap) h' _ (by omega), List.getElem?_map, hbk]; rfl
    · unfold four at q2
      simp [World.cell?, q2]
/-- append of one row -/
theorem app_row {w w0 : World} {ops : Array Oper} {rest : List Oper} {o : Oper} {a : Act} {Q : Exit → Act → World → Prop} (hgd : o.guard = none) (s x : Operand)
    (ho : o.op = .call { callee := .builtin .append, args := #[s, x], argTypes := #[50, 50] }) {v : Value} {L : List Ed} (hs : a.eval s = v) (h : OwnL w w0.heap.size v L) (b r : Nat) (y : Ed)
    (hx : a.eval x = .slice (some ⟨b, 0, none⟩) 1 1) (hc : w.cell? ⟨b, 0, none⟩ = some (rowV r)) (hr : w0.heap.size ≤ r) (hr2 : w.heap[r]? = some (four y)) (hr3 : v.ownBlock ≠ some r) (hl : L.length + 1 ≤ 1000000) (hsn : Since w0 w)
    (k : ∀ g cap w', OwnL w' w0.heap.size (.slice (some ⟨g, 0, none⟩) (L.length + 1) cap) (L ++ [y]) → Since w0 w' → wpList Tryz.prog ops Q rest (a.put o.dst (.slice (some ⟨g, 0, none⟩) (L.length + 1) cap)) w') : wpList Tryz.prog ops Q (o :: rest) a w := by
  obtain ⟨i0, hi, hz0, hz1, hz2⟩ := info_parts row_info
  obtain ⟨bs, h1, h2, h3⟩ := h
  refine wpList_append_lies w hgd s x 50 ho w0.heap.size 23 i0 _ 1 24 Tryz.underlying50 hi hz0 hz1 hz2 rfl (by decide) v L.length (bs.map rowV) hs h2 ⟨b, 0, none⟩ 1 1 [rowV r] hx rfl
    (by intro j u hj; match j, hj with | 0, hj => (simp at hj; subst hj; simpa [Addr.add] using hc) | j + 1, hj => simp at hj) (by simp [Value.oneCell', rowV]) (by omega) (by unfold maxLen; omega) (by omega) hsn.below.size w.heap.size rfl ?_
  intro g cap w' q1 q2 q3 q4
  refine k g cap w' ⟨bs ++ [r], by simp [h1], by simpa using q1, fun k x b' hx hb => ?_⟩ (Below.grown hsn q2 hsn.below.size (fun q hq => (World.ownsRow.lt h2 q hq).1))
  have hrl : r < w.heap.size := (Array.getElem?_eq_some_iff.1 hr2).1
  have hgr : g ≠ r := fun e => by
    subst e
    rcases q3 with q3 | q3
    · exact hr3 q3
    · omega
  rcases Nat.lt_or_ge k L.length with hk | hk
  · rw [List.getElem?_append_left hk] at hx
    rw [List.getElem?_append_left (by omega)] at hb
    obtain ⟨p1, p2, p3⟩ := h3 k x b' hx hb
    have hbl := (Array.getElem?_eq_some_iff.1 p2).1
    refine ⟨p1, by rw [q2.block b' hbl (fun e => p3 e.symm)]; exact p2, fun e => ?_⟩
    have e2 : g = b' := by simpa [Value.ownBlock] using e
    subst e2
    rcases q3 with q3 | q3
    · exact p3 q3
    · omega
  · have hk1 : k = L.length := by
      have := lt_of_get hx
      simp at this; omega
    subst hk1
    rw [List.getElem?_append_right (Nat.le_refl _), Nat.sub_self] at hx
    rw [← h1, List.getElem?_append_right (Nat.le_refl _), Nat.sub_self] at hb
    simp at hx hb
    subst hx hb
    refine ⟨hr, by rw [q2.block r hrl (fun e => hr3 e.symm)]; exact hr2, fun e => hgr ?_⟩
    simpa [Value.ownBlock] using e
set_option maxRecDepth 100000 in
set_option maxHeartbeats 3200000 in
theorem neEdges_any (ve vi vn : Value) (n : Net) (w : World) (h : NetIn w ve vi vn n) (hn : netOk n = true) :
    Calls Tryz.prog 86 #[.agg #[ve, vi, vn]] w fun e w' => ∃ u, e = .returned u ∧ OwnL w' w.heap.size u (edgesB n) ∧ Below w.heap.size w w' := by
  have hn40 := (netOk_len hn).2
  obtain ⟨w0, hw0⟩ : ∃ w0, w0 = (w).alloc (.cells #[ve, vi, vn] 31) := ⟨_, rfl⟩
  have hb0 : Below w.heap.size w w0 := by rw [hw0]; exact ((Below.refl _ _).alloc (by simp) _)
  have H := Lib.hid (h.keep hb0)
  obtain ⟨h1, h2, h3⟩ := h.keep hb0
  obtain ⟨A, c, rfl, hlc, hm, hA⟩ := h1
  obtain ⟨A2, c2, rfl, _, hm2, _⟩ := h2
  obtain ⟨A3, c3, rfl, _, hm3, _⟩ := h3
  unfold maxLen at hm hm2 hm3
  have p00 : ∀ W, Since w0 W → W.cell? ⟨w.heap.size, 0, none⟩ = some (.slice A n.ends.length c) := have_cell (by rw [hw0]; simp)
  have p01 : ∀ W, Since w0 W → W.cell? ⟨w.heap.size, 1, none⟩ = some (.slice A2 n.ids.length c2) := have_cell (by rw [hw0]; simp)
  have p02 : ∀ W, Since w0 W → W.cell? ⟨w.heap.size, 2, none⟩ = some (.slice A3 n.inputs.length c3) := have_cell (by rw [hw0]; simp)
  have Hb0 := Lib.hid hb0
  have Hw0 := Lib.hid hw0
  have HA := Lib.hid hA
  clear hA h
  clear hb0 hw0
  have Hn := Lib.hid hn
  have HLn := Lib.hid (edgesTo_len hn)
  have hs0 : Since w0 w0 := since_refl _
  clear hn
  go_enter Tryz.func86, Tryz.ntmps86
  go_upto_region 1 with (fail)
  rw [← Hw0.out]
  go_wp2
  go_loopw [3, 11] (fun u i wr => ∃ k : Nat, k ≤ n.ends.length ∧ i = .int .i64 k ∧ OwnL wr w0.heap.size u (edgesTo n k) ∧ Since w0 wr) (fun _ i _ => n.ends.length - (intOf i).toNat)
  case atStart => exact ⟨0, Nat.zero_le _, rfl, ownL_nil _ _, hs0⟩
  case round =>
    obtain ⟨k, hk, rfl, ho, hsr⟩ := hrel
    have Ho := Lib.hid ho
    clear ho hs0
    by_cases hlt : k < n.ends.length
    · obtain ⟨row1, row2, row3⟩ := row_net Hn.out hlt
      obtain ⟨es, hes⟩ : ∃ es, es = rowOf n k := ⟨_, rfl⟩
      have Hes := Lib.hid hes
      rw [← hes] at row1 row2
      obtain ⟨b, offr, cr, ur, hA1, hkr, hc1, hrow⟩ := row_at H.out.es row1
      cases hA1
      have d0 := hsr.cell hc1
      obtain ⟨A1, z1, rfl, hz1, hz2, hA1⟩ := hrow
      unfold maxLen at hz2
      have HA1 := Lib.hid hA1
      have m3 : IntKind.i64.wrap ((k : Int) + 1) = (k : Int) + 1 := wr64 _ (by omega) (by omega)
      clear row1 row3 hes hc1 hA1
      go_wp2
      go_loopw [3, 18] (fun u i wr => ∃ j : Nat, j ≤ es.length ∧ i = .int .i64 j ∧ OwnL wr w0.heap.size u (edgesTo n k ++ erow k es j) ∧ Since w0 wr) (fun _ i _ => es.length - (intOf i).toNat)
      case atStart => exact ⟨0, Nat.zero_le _, rfl, by simpa [erow] using Ho.out, hsr⟩
      case round =>
        obtain ⟨j, hj, rfl, ho, hsr2⟩ := hrel
        have Ho2 := Lib.hid ho
        clear ho hsr d0
        by_cases hlt2 : j < es.length
        · obtain ⟨⟨x1, x2⟩, hx⟩ := getx es j hlt2
          obtain ⟨b1, off1, rfl, hd1, hd2⟩ := HA1.out j _ hx
          have t1 := hsr2.cell hd1
          have t2 := hsr2.cell hd2
          simp only at t1 t2
          have m4 : IntKind.i64.wrap ((j : Int) + 1) = (j : Int) + 1 := wr64 _ (by omega) (by omega)
          obtain ⟨LL, hLL⟩ : ∃ LL, LL = edgesTo n k ++ erow k es j := ⟨_, rfl⟩
          have hLl : LL.length ≤ 1000 := by
            rw [hLL, List.length_append]
            have h1 := HLn.out k
            have h2 := erow_len k es j
            omega
          rw [← hLL] at Ho2
          have Hnx : Hid (edgesTo n k ++ erow k es (j + 1) = LL ++ eone k j (x1, x2)) := by show _ = _; rw [erow_succ, getD_of hx, hLL, List.append_assoc]
          obtain ⟨w5, hw5⟩ : ∃ w5, w5 = wr.alloc (.cells #[.int .i64 x1, .int .i64 x2] 96) := ⟨_, rfl⟩
          have hs5 : Since wr w5 := by rw [hw5]; exact since_alloc _ (since_refl _)
          have z0 : ∀ W, Since w5 W → W.cell? ⟨wr.heap.size, 0, none⟩ = some (.int .i64 x1) := have_cell (by rw [hw5]; simp)
          have z1' : ∀ W, Since w5 W → W.cell? ⟨wr.heap.size, 1, none⟩ = some (.int .i64 x2) := have_cell (by rw [hw5]; simp)
          have hs05 := hsr2.after hs5
          obtain ⟨zb, hzb⟩ : ∃ zb, zb = keepE k j (x1, x2) := ⟨_, rfl⟩
          have hcall := neFirst_any _ _ _ n k j x1 x2 w5 (H.out.keep hs05.below) Hn.out hlt (by rw [← Hes.out]; exact hx)
          rw [← hzb] at hcall
          have Hcall := Lib.hid hcall
          have Hzb := Lib.hid hzb
          have Hw5 := Lib.hid hw5
          have Ho5 := Lib.hid (Ho2.out.keep hs5)
          clear hx hd1 hd2 hLL hcall hzb hw5 hs5
          go_upto_region 8 with (fail)
          rw [← Hw5.out]
          clear hsr2 t1 t2
          go_wp2_with fail
          refine Hcall.out.mono ?_
          rintro e w6 ⟨rfl, hb6⟩
          have hs56 : Since w5 w6 := hb6
          have hs6 : Since w0 w6 := hs05.trans hb6
          have Ho6 := Lib.hid (Ho5.out.keep hs56)
          have y0 := lift_cell z0 hs56
          have y1 := lift_cell z1' hs56
          have h66 : Since w6 w6 := since_refl _
          clear hb6 hs05 z0 z1' hs56
          cases zb
          · have Hn2 : Hid (edgesTo n k ++ erow k es (j + 1) = LL) := by show _ = _; rw [Hnx.out]; unfold eone; rw [← Hzb.out]; simp
            clear y0 y1 h66
            go_wp2
            go_roundw
            case rel => exact ⟨j + 1, by omega, by go_num, by rw [Hn2.out]; exact Ho6.out, hs6⟩
            case measure => simp [intOf]; omega
          · have Hn2 : Hid (edgesTo n k ++ erow k es (j + 1) = LL ++ [((k : Int), (j : Int), x1, x2)]) := by show _ = _; rw [Hnx.out]; unfold eone; rw [← Hzb.out, if_pos rfl]
            obtain ⟨w8, hw8⟩ : ∃ w8, w8 = (w6.alloc (four ((k : Int), (j : Int), x1, x2))).alloc (.cells #[rowV w6.heap.size] 23) := ⟨_, rfl⟩
            have hs8 : Since w0 w8 := by rw [hw8]; exact since_alloc _ (since_alloc _ hs6)
            have Ho8 : Hid (OwnL w8 w0.heap.size u3 LL) := by show OwnL _ _ _ _; rw [hw8]; exact Ho6.out.keep (since_alloc _ (since_alloc _ (since_refl _)))
            have c8 : w8.cell? ⟨w6.heap.size + 1, 0, none⟩ = some (rowV w6.heap.size) := by rw [hw8]; simp
            have r8 : w8.heap[w6.heap.size]? = some (four ((k : Int), (j : Int), x1, x2)) := by
              have h1 : (w6.alloc (four ((k : Int), (j : Int), x1, x2))).heap[w6.heap.size]? = some (four ((k : Int), (j : Int), x1, x2)) := heap_alloc_new w6 _
              have h2 : Since (w6.alloc (four ((k : Int), (j : Int), x1, x2))) w8 := by rw [hw8]; exact since_alloc _ (since_refl _)
              rw [h2.below.block _ (Array.getElem?_eq_some_iff.1 h1).1]; exact h1
            have n8 : u3.ownBlock ≠ some w6.heap.size := fun e => by
              obtain ⟨bs, _, q, _⟩ := Ho6.out
              have := (World.ownsRow.lt q _ e).2
              omega
            have Hc8 := Lib.hid (And.intro c8 (And.intro r8 n8))
            have Hs8 := Lib.hid hs8
            have g6 : w0.heap.size ≤ w6.heap.size := (Since.below hs6).size
            have hl8 : LL.length + 1 ≤ 1000000 := by omega
            have Hw8 := Lib.hid hw8
            unfold four rowV at hw8
            clear hs8 c8 r8 n8
            go_wp2_with (at_builtin; rw [← hw8]; refine app_row rfl _ _ rfl rfl Ho8.out (w6.heap.size + 1) w6.heap.size ((k : Int), (j : Int), x1, x2) rfl Hc8.out.1 g6 Hc8.out.2.1 Hc8.out.2.2 hl8 Hs8.out ?_; intro g9 cc9 w9 ho9 hs9)
            have Ho9 := Lib.hid ho9
            have Hs9 := Lib.hid hs9
            clear ho9 hs9 hs6 y0 y1 h66 hw8
            go_wp2
            go_roundw
            case rel => exact ⟨j + 1, by omega, by go_num, by rw [Hn2.out]; exact Ho9.out, Hs9.out⟩
            case measure => simp [intOf]; omega
        · have Hnx : Hid (edgesTo n (k + 1) = edgesTo n k ++ erow k es j) := by show _ = _; rw [edgesTo_succ, ← Hes.out, show j = es.length by omega]
          have hje : j = es.length := by omega
          clear hlt2
          subst hje
          go_wp2
          go_roundw
          case rel => exact ⟨k + 1, by omega, by go_num, by rw [Hnx.out]; exact Ho2.out, hsr2⟩
          case measure => simp [intOf]; omega
    · obtain rfl : k = n.ends.length := by omega
      go_wp2
      go_ret
      exact ⟨_, rfl, by obtain ⟨bs, q1, q2, q3⟩ := Ho.out; exact ⟨bs, q1, ownsRow_mono q2 Hb0.out.size, fun k x b hx hb => ⟨Nat.le_trans Hb0.out.size (q3 k x b hx hb).1, (q3 k x b hx hb).2⟩⟩, Since.after Hb0.out hsr⟩
end Go.Proofs.YtlfehdikgbgloaaGreat
namespace Go.Proofs.YtlfehdikgbgloaaGreat
open Go.RowKit
end Go.Proofs.YtlfehdikgbgloaaGreat
namespace Go.Proofs.YtlfehdikgbgloaaGreat
open Go.RowKit
end Go.Proofs.YtlfehdikgbgloaaGreat
