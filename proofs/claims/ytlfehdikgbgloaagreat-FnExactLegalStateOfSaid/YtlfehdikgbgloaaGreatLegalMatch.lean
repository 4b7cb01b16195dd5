import Derived.Test.YtlfehdikgbgloaaGreatBfsPlain
import Derived.Test.YtlfehdikgbgloaaGreatStabPlain
namespace Go.Proofs.YtlfehdikgbgloaaGreat
open Go.RowKit
/-! the walk that grows finds the least lengths of ways -/
def dst (st : List Int × List Int) (x : Int) : Int := st.1.getD x.toNat 0
def wk (st : List Int × List Int) (j : Nat) : Int := st.2.getD j 0
theorem wk_mem {st : List Int × List Int} {j : Nat} (h : j < st.2.length) : wk st j ∈ st.2 := by
  unfold wk; rw [List.getD_eq_getElem?_getD, List.getElem?_eq_getElem h]; exact List.getElem_mem h
theorem mem_wk {st : List Int × List Int} {x : Int} (h : x ∈ st.2) : ∃ j, j < st.2.length ∧ wk st j = x := by
  obtain ⟨j, hj, e⟩ := List.mem_iff_getElem.1 h
  exact ⟨j, hj, by unfold wk; rw [List.getD_eq_getElem?_getD, List.getElem?_eq_getElem hj]; exact e⟩
structure BM (n : Net) (v : Nat) (st : List Int × List Int) (i : Nat) : Prop where
  bi : BI n.ends.length st
  mono : ∀ j j', j ≤ j' → j' < st.2.length → dst st (wk st j) ≤ dst st (wk st j')
  near : ∀ j, j < st.2.length → i < st.2.length → dst st (wk st j) ≤ dst st (wk st i) + 1
  pos : ∀ x ∈ st.2, 0 ≤ dst st x
  mem : ∀ x : Int, 0 ≤ x → x < n.ends.length → 0 ≤ dst st x → x ∈ st.2
  prev : ∀ x ∈ st.2, (x = v ∧ dst st x = 0) ∨ ∃ u ∈ st.2, x ∈ bsee n u ∧ dst st x = dst st u + 1
  done : ∀ j, j < i → ∀ x ∈ bsee n (wk st j), 0 ≤ dst st x ∧ dst st x ≤ dst st (wk st j) + 1
  self : (v : Int) ∈ st.2 ∧ dst st v = 0
structure Nxt (n : Net) (cur : Int) (i : Nat) (xs : List Int) (st st' : List Int × List Int) : Prop where
  lt : i < st'.2.length
  at_ : wk st' i = wk st i
  keep : ∀ y ∈ st.2, dst st' y = dst st y
  grow : ∀ y ∈ st.2, y ∈ st'.2
  seen : ∀ x ∈ xs, 0 ≤ dst st' x ∧ dst st' x ≤ dst st cur + 1
theorem BM.step {n : Net} (hn : netOk n = true) {v i : Nat} {st : List Int × List Int} (h : BM n v st i) (hi : i < st.2.length) {x : Int} (hx : 0 ≤ x ∧ x < n.ends.length) (hs : x ∈ bsee n (wk st i)) :
    BM n v (bstep (wk st i) st x) i ∧ Nxt n (wk st i) i [x] st (bstep (wk st i) st x) := by
  obtain ⟨cur, hcur⟩ : ∃ cur, cur = wk st i := ⟨_, rfl⟩
  have hcm : cur ∈ st.2 := by rw [hcur]; exact wk_mem hi
  have hcr := h.bi.walk cur hcm
  have hc0 := h.pos cur hcm
  have hbi := h.bi.step (cur := cur) (x := x) hcr hx
  rw [← hcur] at hs ⊢
  by_cases hneg : dst st x < 0
  · have e : bstep cur st x = (st.1.set x.toNat (dst st cur + 1), st.2 ++ [x]) := by unfold bstep; rw [if_pos (by exact hneg)]; rfl
    rw [e] at hbi ⊢
    obtain ⟨st', hst⟩ : ∃ st', st' = (st.1.set x.toNat (dst st cur + 1), st.2 ++ [x]) := ⟨_, rfl⟩
    rw [← hst] at hbi ⊢
    have hl : st'.2.length = st.2.length + 1 := by rw [hst]; simp
    have hw : ∀ j, j < st.2.length → wk st' j = wk st j := fun j hj => by
      rw [hst]; unfold wk
      simp only [List.getD_eq_getElem?_getD]
      rw [List.getElem?_append_left hj]
    have hwl : wk st' st.2.length = x := by rw [hst]; unfold wk; simp
    have hxl : x.toNat < st.1.length := by rw [h.bi.len]; omega
    have hdx : dst st' x = dst st cur + 1 := by rw [hst]; unfold dst; simp [List.getD_eq_getElem?_getD, hxl]
    have hdy : ∀ y ∈ st.2, dst st' y = dst st y := fun y hy => by
      have h0 := h.pos y hy
      have hyr := h.bi.walk y hy
      have hne : x.toNat ≠ y.toNat := fun e => by
        have : x = y := by omega
        subst this; omega
      rw [hst]
      unfold dst
      rw [List.getD_eq_getElem?_getD, List.getElem?_set_ne hne, ← List.getD_eq_getElem?_getD]
    have hdo : ∀ y, 0 ≤ y → y ≠ x → dst st' y = dst st y := fun y hy hne => by
      have : x.toNat ≠ y.toNat := fun e => by omega
      rw [hst]
      unfold dst
      rw [List.getD_eq_getElem?_getD, List.getElem?_set_ne this, ← List.getD_eq_getElem?_getD]
    have hmem : ∀ y, y ∈ st'.2 ↔ y ∈ st.2 ∨ y = x := fun y => by rw [hst]; simp
    have hold : ∀ j, j < st.2.length → dst st' (wk st' j) = dst st (wk st j) := fun j hj => by rw [hw j hj]; exact hdy _ (wk_mem hj)
    have hnew : dst st' (wk st' st.2.length) = dst st cur + 1 := by rw [hwl]; exact hdx
    have hci : dst st cur = dst st (wk st i) := by rw [hcur]
    refine ⟨⟨hbi, ?_, ?_, ?_, ?_, ?_, ?_, ?_⟩, ⟨by omega, hw i hi, hdy, fun y hy => (hmem y).2 (.inl hy), ?_⟩⟩
    · intro j j' hj hj'
      rw [hl] at hj'
      rcases Nat.lt_succ_iff_lt_or_eq.1 hj' with hj' | rfl
      · rw [hold j (by omega), hold j' hj']; exact h.mono j j' hj hj'
      · rw [hnew]
        rcases Nat.lt_or_eq_of_le hj with hj | rfl
        · rw [hold j hj]; have := h.near j hj hi; omega
        · rw [hnew]; exact Int.le_refl _
    · intro j hj _
      rw [hl] at hj
      rw [hold i hi]
      rcases Nat.lt_succ_iff_lt_or_eq.1 hj with hj | rfl
      · rw [hold j hj]; exact h.near j hj hi
      · rw [hnew]; omega
    · intro y hy
      rcases (hmem y).1 hy with hy | rfl
      · rw [hdy y hy]; exact h.pos y hy
      · rw [hdx]; omega
    · intro y h0 h1 h2
      by_cases e : y = x
      · exact (hmem y).2 (.inr e)
      · rw [hdo y h0 e] at h2
        exact (hmem y).2 (.inl (h.mem y h0 h1 h2))
    · intro y hy
      rcases (hmem y).1 hy with hy | rfl
      · rcases h.prev y hy with ⟨e1, e2⟩ | ⟨u, hu, e1, e2⟩
        · exact .inl ⟨e1, by rw [hdy y hy]; exact e2⟩
        · exact .inr ⟨u, (hmem u).2 (.inl hu), e1, by rw [hdy y hy, hdy u hu]; exact e2⟩
      · exact .inr ⟨cur, (hmem cur).2 (.inl hcm), hs, by rw [hdx, hdy cur hcm]⟩
    · intro j hj y hy
      have hjl : j < st.2.length := by omega
      rw [hw j hjl] at hy
      rw [hold j hjl]
      have h2 := h.done j hj y hy
      by_cases e : y = x
      · subst e; omega
      · rw [hdo y (see_in hn (h.bi.walk _ (wk_mem hjl)) y hy).1 e]; exact h2
    · exact ⟨(hmem _).2 (.inl h.self.1), by rw [hdy _ h.self.1]; exact h.self.2⟩
    · intro y hy
      rcases List.mem_singleton.1 hy with rfl
      rw [hdx]; omega
  · have e : bstep cur st x = st := by unfold bstep; rw [if_neg (by exact hneg)]
    rw [e]
    refine ⟨h, ⟨hi, rfl, fun _ _ => rfl, fun _ hy => hy, ?_⟩⟩
    intro y hy
    rcases List.mem_singleton.1 hy with rfl
    refine ⟨by omega, ?_⟩
    obtain ⟨j, hj, rfl⟩ := mem_wk (h.mem y hx.1 hx.2 (by omega))
    have := h.near j hj hi
    rw [hcur]; exact this
theorem BM.fold {n : Net} (hn : netOk n = true) {v i : Nat} (cur : Int) : ∀ (xs : List Int) {st : List Int × List Int}, BM n v st i → i < st.2.length → wk st i = cur → (∀ x ∈ xs, x ∈ bsee n cur) →
    BM n v (xs.foldl (bstep cur) st) i ∧ Nxt n cur i xs st (xs.foldl (bstep cur) st)
  | [], st, h, hi, _, _ => ⟨h, ⟨hi, rfl, fun _ _ => rfl, fun _ hy => hy, fun x hx => by simp at hx⟩⟩
  | x :: xs, st, h, hi, hc, hs => by
    subst hc
    have hcw := wk_mem hi
    have hx := see_in hn (h.bi.walk _ hcw) x (hs x (by simp))
    obtain ⟨h1, n1⟩ := h.step hn hi hx (hs x (by simp))
    obtain ⟨h2, n2⟩ := BM.fold hn (wk st i) xs h1 n1.lt n1.at_ (fun y hy => hs y (List.mem_cons_of_mem _ hy))
    rw [List.foldl_cons]
    have hk : ∀ y ∈ st.2, dst (xs.foldl (bstep (wk st i)) (bstep (wk st i) st x)) y = dst st y := fun y hy => by rw [n2.keep y (n1.grow y hy), n1.keep y hy]
    refine ⟨h2, ⟨n2.lt, by rw [n2.at_, n1.at_], hk, fun y hy => n2.grow y (n1.grow y hy), fun y hy => ?_⟩⟩
    have e1 := n1.keep _ hcw
    rcases List.mem_cons.1 hy with rfl | hy
    · have h3 := n1.seen y (by simp)
      have hm := h1.mem y hx.1 hx.2 h3.1
      rw [n2.keep y hm]
      exact h3
    · have := n2.seen y hy
      rw [e1] at this
      exact this
theorem BM.next {n : Net} (hn : netOk n = true) {v i : Nat} {st : List Int × List Int} (h : BM n v st i) (hi : i < st.2.length) : BM n v ((bsee n (wk st i)).foldl (bstep (wk st i)) st) (i + 1) := by
  obtain ⟨h1, n1⟩ := h.fold hn (wk st i) (bsee n (wk st i)) hi rfl (fun x hx => hx)
  have hcw := wk_mem hi
  have ek := n1.keep _ hcw
  refine { h1 with near := fun j hj hj2 => ?_, done := fun j hj x hx => ?_ }
  · have := h1.near j hj n1.lt
    have := h1.mono i (i + 1) (by omega) hj2
    omega
  · rcases Nat.lt_succ_iff_lt_or_eq.1 hj with hj | rfl
    · exact h1.done j hj x hx
    · rw [n1.at_] at hx ⊢
      rw [ek]
      exact n1.seen x hx
theorem BM.start {n : Net} {v : Nat} (hv : v < n.ends.length) : BM n v (bfsStart n v) 0 := by
  have hd : dst (bfsStart n v) v = 0 := by unfold dst bfsStart; simp [List.getD_eq_getElem?_getD, hv]
  have hm : ∀ x, x ∈ (bfsStart n v).2 ↔ x = v := fun x => by simp [bfsStart]
  have hl : (bfsStart n v).2.length = 1 := by simp [bfsStart]
  have hw : wk (bfsStart n v) 0 = v := by simp [wk, bfsStart]
  refine ⟨BI.start hv, ?_, ?_, ?_, ?_, ?_, fun j hj => absurd hj (Nat.not_lt_zero _), ⟨(hm _).2 rfl, hd⟩⟩
  · intro j j' hj hj'
    rw [hl] at hj'
    obtain rfl : j' = 0 := by omega
    obtain rfl : j = 0 := by omega
    exact Int.le_refl _
  · intro j hj _
    rw [hl] at hj
    obtain rfl : j = 0 := by omega
    omega
  · intro x hx; rw [(hm x).1 hx, hd]; exact Int.le_refl _
  · intro x h0 h1 h2
    rw [hm]
    apply Classical.byContradiction
    intro hne
    have : v ≠ x.toNat := fun e => by omega
    have hxl : x.toNat < n.ends.length := by omega
    have e : dst (bfsStart n v) x = -1 := by
      unfold dst bfsStart
      rw [List.getD_eq_getElem?_getD, List.getElem?_set_ne this]
      simp [hxl]
    omega
  · intro x hx; exact .inl ⟨(hm x).1 hx, by rw [(hm x).1 hx]; exact hd⟩
/-- what the distances from v are known by -/
structure Dist (n : Net) (v : Nat) (ds : List Int) : Prop where
  len : ds.length = n.ends.length
  lo : ∀ x : Int, 0 ≤ x → x < n.ends.length → -1 ≤ ds.getD x.toNat 0
  self : ds.getD v 0 = 0
  next : ∀ u x : Int, 0 ≤ u → u < n.ends.length → x ∈ bsee n u → 0 ≤ ds.getD u.toNat 0 → 0 ≤ ds.getD x.toNat 0 ∧ ds.getD x.toNat 0 ≤ ds.getD u.toNat 0 + 1
  prev : ∀ x : Int, 0 ≤ x → x < n.ends.length → 0 ≤ ds.getD x.toNat 0 → (x = v ∧ ds.getD x.toNat 0 = 0) ∨ ∃ u : Int, 0 ≤ u ∧ u < n.ends.length ∧ x ∈ bsee n u ∧ 0 ≤ ds.getD u.toNat 0 ∧ ds.getD x.toNat 0 = ds.getD u.toNat 0 + 1
theorem BM.dist {n : Net} {v i : Nat} {st : List Int × List Int} (h : BM n v st i) (hi : st.2.length ≤ i) : Dist n v st.1 where
  len := h.bi.len
  lo := fun x h0 h1 => by
    have hx : x.toNat < st.1.length := by rw [h.bi.len]; omega
    rw [List.getD_eq_getElem?_getD, List.getElem?_eq_getElem hx]
    exact (h.bi.val _ (List.getElem_mem hx)).1
  self := h.self.2
  next := fun u x h0 h1 hx hu => by
    obtain ⟨j, hj, rfl⟩ := mem_wk (h.mem u h0 h1 hu)
    exact h.done j (by omega) x hx
  prev := fun x h0 h1 hx => by
    rcases h.prev x (h.mem x h0 h1 hx) with ⟨e1, e2⟩ | ⟨u, hu, e1, e2⟩
    · exact .inl ⟨e1, e2⟩
    · have := h.bi.walk u hu
      exact .inr ⟨u, this.1, this.2, e1, h.pos u hu, e2⟩
theorem bfs_dist {n : Net} (hn : netOk n = true) {v : Nat} : ∀ (f : Nat) (st : List Int × List Int) (i : Nat), BM n v st i → i ≤ st.2.length → n.ends.length < f + i → Dist n v (bfs n f st i)
  | 0, st, i, h, hi, hf => by have := h.bi.bd; omega
  | f + 1, st, i, h, hi, hf => by
    unfold bfs
    split
    · rename_i hlt
      have h1 := h.next hn hlt
      obtain ⟨ys, hy⟩ := fold_walk (wk st i) (bsee n (wk st i)) st
      exact bfs_dist hn f _ (i + 1) h1 (by have := congrArg List.length hy; rw [List.length_append] at this; show i + 1 ≤ _; unfold wk at this; omega) (by omega)
    · exact h.dist (by omega)
theorem dist_of {n : Net} (hn : netOk n = true) {v : Nat} (hv : v < n.ends.length) : Dist n v (distB n v) :=
  bfs_dist hn _ _ 0 (BM.start hv) (Nat.zero_le _) (by omega)
/-- a way of k steps from u to x -/
inductive Way (n : Net) (u : Int) : Nat → Int → Prop
  | here : 0 ≤ u → u < n.ends.length → Way n u 0 u
  | step {k : Nat} {y x : Int} : Way n u k y → x ∈ bsee n y → Way n u (k + 1) x
theorem Way.range {n : Net} (hn : netOk n = true) {u x : Int} {k : Nat} (h : Way n u k x) : 0 ≤ x ∧ x < n.ends.length := by
  induction h with
  | here h0 h1 => exact ⟨h0, h1⟩
  | step _ hx ih => exact see_in hn ih _ hx
theorem Way.start {n : Net} {u x : Int} {k : Nat} (h : Way n u k x) : 0 ≤ u ∧ u < n.ends.length := by
  induction h with
  | here h0 h1 => exact ⟨h0, h1⟩
  | step _ _ ih => exact ih
theorem Way.front {n : Net} (hn : netOk n = true) {u y x : Int} {k : Nat} (h : Way n y k x) (hu : 0 ≤ u ∧ u < n.ends.length) (hy : y ∈ bsee n u) : Way n u (k + 1) x := by
  induction h with
  | here h0 h1 => exact .step (.here hu.1 hu.2) hy
  | step _ hx ih => exact .step ih hx
theorem see_sym {n : Net} (hn : netOk n = true) {u x : Int} (hu : 0 ≤ u ∧ u < n.ends.length) (h : x ∈ bsee n u) : u ∈ bsee n x := by
  unfold bsee at h
  obtain ⟨e, he, rfl⟩ := List.mem_map.1 h
  obtain ⟨i, hi⟩ := List.getElem?_of_mem he
  have hp : hasPortB n.ends u i = true := by
    unfold hasPortB inB
    have := lt_of_get hi
    simp only [Bool.and_eq_true, decide_eq_true_eq, Int.toNat_natCast]
    omega
  obtain ⟨hp2, e2⟩ := netOk_end hn hp
  have ee : endAt n.ends u i = e := by unfold endAt; rw [Int.toNat_natCast]; exact getD_of hi
  rw [ee] at hp2 e2
  obtain ⟨q1, q2⟩ : (0 ≤ e.1 ∧ e.1 < n.ends.length) ∧ (0 ≤ e.2 ∧ e.2 < (n.ends.getD e.1.toNat []).length) := by
    unfold hasPortB inB at hp2
    simp only [Bool.and_eq_true, decide_eq_true_eq] at hp2
    omega
  unfold bsee
  rw [List.mem_map]
  refine ⟨endAt n.ends e.1 e.2, ?_, by rw [e2]⟩
  unfold endAt
  obtain ⟨row, hrow⟩ : ∃ row, row = n.ends.getD e.1.toNat [] := ⟨_, rfl⟩
  rw [← hrow] at q2 ⊢
  rw [List.getD_eq_getElem?_getD, List.getElem?_eq_getElem (show e.2.toNat < row.length by omega)]
  exact List.getElem_mem _
theorem Way.rev {n : Net} (hn : netOk n = true) {u x : Int} {k : Nat} (h : Way n u k x) : Way n x k u := by
  induction h with
  | here h0 h1 => exact .here h0 h1
  | step hw hx ih => exact ih.front hn (see_in hn (hw.range hn) _ hx) (see_sym hn (hw.range hn) hx)
theorem Dist.le {n : Net} (hn : netOk n = true) {v : Nat} {ds : List Int} (h : Dist n v ds) {x : Int} {k : Nat} (hw : Way n v k x) : 0 ≤ ds.getD x.toNat 0 ∧ ds.getD x.toNat 0 ≤ k := by
  induction hw with
  | here h0 h1 => rw [show ((v : Int)).toNat = v by omega, h.self]; omega
  | step hw hx ih =>
    have := h.next _ _ (hw.range hn).1 (hw.range hn).2 hx ih.1
    omega
theorem Dist.way {n : Net} {v : Nat} {ds : List Int} (h : Dist n v ds) (hv : v < n.ends.length) : ∀ (k : Nat) (x : Int), 0 ≤ x → x < n.ends.length → ds.getD x.toNat 0 = k → Way n v k x
  | 0, x, h0, h1, e => by
    rcases h.prev x h0 h1 (by omega) with ⟨e1, e2⟩ | ⟨u, hu0, hu1, hx, hp, e2⟩
    · subst e1; exact .here h0 h1
    · omega
  | k + 1, x, h0, h1, e => by
    rcases h.prev x h0 h1 (by omega) with ⟨e1, e2⟩ | ⟨u, hu0, hu1, hx, hp, e2⟩
    · omega
    · exact .step (h.way hv k u hu0 hu1 (by omega)) hx
/-- the distance is the same in both directions -/
theorem dist_sym {n : Net} (hn : netOk n = true) {u v : Nat} (hu : u < n.ends.length) (hv : v < n.ends.length) : (distB n u).getD v 0 = (distB n v).getD u 0 := by
  have key : ∀ {u v : Nat}, u < n.ends.length → v < n.ends.length → 0 ≤ (distB n u).getD v 0 → 0 ≤ (distB n v).getD u 0 ∧ (distB n v).getD u 0 ≤ (distB n u).getD v 0 := by
    intro u v hu hv h0
    obtain ⟨k, hk⟩ := Int.eq_ofNat_of_zero_le h0
    have hw := (dist_of hn hu).way hu k (v : Int) (by omega) (by omega) (by rw [show ((v : Int)).toNat = v by omega]; exact hk)
    have := (dist_of hn hv).le hn (hw.rev hn)
    rw [show ((u : Int)).toNat = u by omega] at this
    omega
  have l1 := (dist_of hn hu).lo v (by omega) (by omega)
  have l2 := (dist_of hn hv).lo u (by omega) (by omega)
  rw [show ((v : Int)).toNat = v by omega] at l1
  rw [show ((u : Int)).toNat = u by omega] at l2
  by_cases h1 : 0 ≤ (distB n u).getD v 0
  · have := key hu hv h1
    have := key hv hu this.1
    omega
  · by_cases h2 : 0 ≤ (distB n v).getD u 0
    · have := key hv hu h2
      omega
    · omega
end Go.Proofs.YtlfehdikgbgloaaGreat
namespace Go.Proofs.YtlfehdikgbgloaaGreat
open Go.RowKit
-- the distances from the nearest roots
def rootsB (n : Net) : List Int := keptB (fun v => n.inputs.getD v.toNat 0 != 1) (upto n.inputs.length)
def ruStep (ds : List Int) (a w : Int) : Int := if decide (0 ≤ ds.getD w.toNat 0) && (decide (a < 0) || decide (ds.getD w.toNat 0 < a)) then ds.getD w.toNat 0 else a
def ruFarB (n : Net) (set : List Int) (v : Nat) : Int := set.foldl (ruStep (distB n v)) (-1)
def farB (n : Net) (v : Nat) : Int := if ruFarB n (rootsB n) v < 0 then (n.ends.length : Int) else ruFarB n (rootsB n) v
def farsB (n : Net) : List Int := (List.range n.ends.length).map (farB n)
-- the program's way: from each root to all nodes
def trStep (d a : Int) : Int := if 0 ≤ d then min a d else a
def trPut (n : Net) (out : List Int) (w : Int) : List Int := (List.range n.ends.length).map fun v => trStep ((distB n w.toNat).getD v 0) (out.getD v 0)
def treesB (n : Net) : List Int := (rootsB n).foldl (trPut n) (List.replicate n.ends.length (n.ends.length : Int))
theorem range_getD {k v : Nat} {f : Nat → Int} (h : v < k) : ((List.range k).map f).getD v 0 = f v := by simp [List.getD_eq_getElem?_getD, h]
theorem trees_len (n : Net) : ∀ (ws out : List Int), out.length = n.ends.length → (ws.foldl (trPut n) out).length = n.ends.length
  | [], _, h => h
  | w :: ws, out, _ => trees_len n ws (trPut n out w) (by simp [trPut])
theorem dist_lt {n : Net} (hn : netOk n = true) {u v : Nat} (hu : u < n.ends.length) (hv : v < n.ends.length) : -1 ≤ (distB n u).getD v 0 ∧ (distB n u).getD v 0 < n.ends.length := by
  have hl : v < (distB n u).length := by rw [(dist_of hn hu).len]; exact hv
  rw [List.getD_eq_getElem?_getD, List.getElem?_eq_getElem hl]
  exact bfs_in hn _ _ 0 (BI.start hu) _ (List.getElem_mem hl)
theorem trees_at {n : Net} (hn : netOk n = true) {v : Nat} (hv : v < n.ends.length) : ∀ (ws out : List Int) (a : Int), (∀ w ∈ ws, 0 ≤ w ∧ w < n.ends.length) → out.getD v 0 = (if a < 0 then (n.ends.length : Int) else a) → -1 ≤ a →
    (ws.foldl (trPut n) out).getD v 0 = (if ws.foldl (ruStep (distB n v)) a < 0 then (n.ends.length : Int) else ws.foldl (ruStep (distB n v)) a)
  | [], _, _, _, h, _ => h
  | w :: ws, out, a, hw, h, ha => by
    obtain ⟨w0, w1⟩ := hw w (by simp)
    have hs := dist_sym hn (u := w.toNat) (v := v) (by omega) hv
    have hb := dist_lt hn (u := v) (v := w.toNat) hv (by omega)
    rw [List.foldl_cons, List.foldl_cons]
    refine trees_at hn hv ws _ _ (fun x hx => hw x (List.mem_cons_of_mem _ hx)) ?_ ?_
    · unfold trPut
      rw [range_getD hv, h, hs]
      unfold trStep ruStep
      generalize (distB n v).getD w.toNat 0 = d at *
      simp only [Bool.and_eq_true, Bool.or_eq_true, decide_eq_true_eq]
      split <;> split <;> split <;> (try split) <;> (try rw [Int.min_def]) <;> (try split) <;> omega
    · unfold ruStep
      split
      · exact hb.1
      · exact ha
theorem rootsB_mem {n : Net} (hn : netOk n = true) {w : Int} (h : w ∈ rootsB n) : 0 ≤ w ∧ w < n.ends.length := by
  unfold rootsB keptB upto at h
  obtain ⟨h, -⟩ := List.mem_filter.1 h
  obtain ⟨i, hi, rfl⟩ := List.mem_map.1 h
  have h1 := List.mem_range.1 hi
  have h2 : n.inputs.length = n.ends.length := by
    unfold netOk inputsB at hn
    simp only [Bool.and_eq_true, beq_iff_eq] at hn
    omega
  simp only [Int.ofNat_eq_natCast]
  omega
theorem trees_eq {n : Net} (hn : netOk n = true) : treesB n = farsB n := by
  have hl : (treesB n).length = n.ends.length := trees_len n _ _ (by simp)
  apply List.ext_getElem
  · rw [hl]; simp [farsB]
  · intro v h1 h2
    have hv : v < n.ends.length := by omega
    have e := trees_at hn hv (rootsB n) (List.replicate n.ends.length (n.ends.length : Int)) (-1) (fun w hw => rootsB_mem hn hw) (by simp [List.getD_eq_getElem?_getD, hv]) (by omega)
    have e2 : (farsB n).getD v 0 = farB n v := range_getD hv
    rw [List.getD_eq_getElem?_getD, List.getElem?_eq_getElem h2] at e2
    have e3 : (treesB n).getD v 0 = _ := e
    rw [List.getD_eq_getElem?_getD, List.getElem?_eq_getElem h1] at e3
    simp only [Option.getD_some] at e2 e3
    rw [e2, e3]
    rfl
-- the greedy colours
def colStep (n : Net) (out : List Int) (v : Int) : List Int := out.set v.toNat (leastB (nearB out (rowOf n v.toNat)))
def colB (n : Net) : List Int := (upto n.ends.length).foldl (colStep n) (List.replicate n.ends.length (-1))
theorem plain_row {n : Net} (h : plainB n = true) {v : Nat} (hv : v < n.ends.length) : ∀ x ∈ bsee n v, x ≠ (v : Int) := by
  unfold plainB at h
  rw [List.all_eq_true] at h
  have := h v (List.mem_range.2 hv)
  intro x hx e
  subst e
  unfold hasB at this
  simp at this
  exact this hx
-- the greedy set
def setStep (n : Net) (s : List Int) (v : Int) : List Int := if (rowOf n v.toNat).any (fun e => hasB s e.1) then s else s ++ [v]
def indB (n : Net) : List Int := (upto n.ends.length).foldl (setStep n) []
theorem ruFar_mem {n : Net} (hn : netOk n = true) {v : Nat} (hv : v < n.ends.length) : ∀ (set : List Int) (a : Int), (∀ w ∈ set, 0 ≤ w ∧ w < n.ends.length) → -1 ≤ a →
    (inB 0 1 (set.foldl (ruStep (distB n v)) a) = true ↔ (inB 0 1 a = true ∨ ∃ w ∈ set, inB 0 1 ((distB n v).getD w.toNat 0) = true)) ∧ -1 ≤ set.foldl (ruStep (distB n v)) a
  | [], a, _, ha => by simp [ha]
  | w :: set, a, hs, ha => by
    have hw := hs w (by simp)
    have hb := dist_lt hn (u := v) (v := w.toNat) hv (by omega)
    have ha2 : -1 ≤ ruStep (distB n v) a w := by unfold ruStep; split <;> omega
    have ih := ruFar_mem hn hv set (ruStep (distB n v) a w) (fun x hx => hs x (List.mem_cons_of_mem _ hx)) ha2
    rw [List.foldl_cons]
    refine ⟨?_, ih.2⟩
    rw [ih.1]
    have key : inB 0 1 (ruStep (distB n v) a w) = true ↔ (inB 0 1 a = true ∨ inB 0 1 ((distB n v).getD w.toNat 0) = true) := by
      unfold ruStep
      generalize (distB n v).getD w.toNat 0 = d at *
      simp only [inB, Bool.and_eq_true, Bool.or_eq_true, decide_eq_true_eq]
      split <;> omega
    rw [key]
    simp only [List.mem_cons, exists_eq_or_imp]
    rw [or_assoc]
theorem dist_one {n : Net} (hn : netOk n = true) {v : Nat} (hv : v < n.ends.length) {w : Int} (h0 : 0 ≤ w) (h1 : w < n.ends.length) : inB 0 1 ((distB n v).getD w.toNat 0) = true ↔ w = v ∨ w ∈ bsee n v := by
  have D := dist_of hn hv
  constructor
  · intro h
    simp only [inB, Bool.and_eq_true, decide_eq_true_eq] at h
    rcases D.prev w h0 h1 h.1 with ⟨e, -⟩ | ⟨u, hu0, hu1, hx, hp, e2⟩
    · exact .inl e
    · rcases D.prev u hu0 hu1 hp with ⟨e, -⟩ | ⟨u', _, _, _, hp', e3⟩
      · subst e; exact .inr hx
      · omega
  · intro h
    simp only [inB, Bool.and_eq_true, decide_eq_true_eq]
    rcases h with rfl | h
    · rw [show ((v : Int)).toNat = v by omega, D.self]; omega
    · have := D.next v w (by omega) (by omega) h (by rw [show ((v : Int)).toNat = v by omega, D.self]; exact Int.le_refl _)
      rw [show ((v : Int)).toNat = v by omega, D.self] at this
      omega
/-- the reference's test of nearness is the program's -/
theorem ind_step {n : Net} (hn : netOk n = true) {v : Nat} (hv : v < n.ends.length) {set : List Int} (hs : ∀ w ∈ set, 0 ≤ w ∧ w < (v : Int)) : inB 0 1 (ruFarB n set v) = (rowOf n v).any (fun e => hasB set e.1) := by
  have h := (ruFar_mem hn hv set (-1) (fun w hw => by have := hs w hw; omega) (by omega)).1
  rw [Bool.eq_iff_iff]
  unfold ruFarB
  rw [h, List.any_eq_true]
  constructor
  · rintro (h | ⟨w, hw, h⟩)
    · simp [inB] at h
    · obtain ⟨w0, w1⟩ := hs w hw
      rcases (dist_one hn hv w0 (by omega)).1 h with e | e
      · omega
      · unfold bsee at e
        obtain ⟨x, hx, rfl⟩ := List.mem_map.1 e
        refine ⟨x, ?_, by unfold hasB; simpa using hw⟩
        rw [Int.toNat_natCast] at hx
        exact hx
  · rintro ⟨x, hx, h⟩
    unfold hasB at h
    have hw : x.1 ∈ set := by simpa using h
    obtain ⟨w0, w1⟩ := hs _ hw
    refine .inr ⟨x.1, hw, (dist_one hn hv w0 (by omega)).2 (.inr ?_)⟩
    unfold bsee
    rw [Int.toNat_natCast]
    exact List.mem_map.2 ⟨x, hx, rfl⟩
theorem ind_lt {n : Net} : ∀ (k : Nat), ∀ w ∈ (upto k).foldl (setStep n) [], 0 ≤ w ∧ w < (k : Int)
  | 0, w, h => by simp [upto] at h
  | k + 1, w, h => by
    have e : upto (k + 1) = upto k ++ [(k : Int)] := by simp [upto, List.range_succ]
    rw [e, List.foldl_append, List.foldl_cons, List.foldl_nil] at h
    unfold setStep at h
    split at h
    · have := ind_lt k w h; omega
    · rcases List.mem_append.1 h with h | h
      · have := ind_lt k w h; omega
      · simp at h; omega
theorem ind_sorted {n : Net} : ∀ (k : Nat), ((upto k).foldl (setStep n) []).Pairwise (fun x y => x < y)
  | 0 => by simp [upto]
  | k + 1 => by
    have e : upto (k + 1) = upto k ++ [(k : Int)] := by simp [upto, List.range_succ]
    rw [e, List.foldl_append, List.foldl_cons, List.foldl_nil]
    unfold setStep
    split
    · exact ind_sorted k
    · rw [List.pairwise_append]
      refine ⟨ind_sorted k, by simp, fun x hx y hy => ?_⟩
      simp at hy
      subst hy
      exact (ind_lt k x hx).2
theorem ind_sort (n : Net) : (indB n).mergeSort (fun x y => decide (x ≤ y)) = indB n :=
  List.mergeSort_of_pairwise ((ind_sorted n.ends.length).imp fun h => by simp; omega)
def onesOf (k : Nat) (set : List Int) : List Int := set.foldl (fun out v => out.set v.toNat 1) (List.replicate k 0)
-- the greedy matching
def mSpec (out : List Int) (e : Ed) : List Int := if out.getD e.1.toNat 0 = 0 ∧ out.getD e.2.2.1.toNat 0 = 0 then (out.set e.1.toNat (e.2.1 + 1)).set e.2.2.1.toNat (e.2.2.2 + 1) else out
def mImpl (m : List Int) (e : Ed) : List Int := if e.1 ≠ e.2.2.1 ∧ m.getD e.1.toNat 0 < 0 ∧ m.getD e.2.2.1.toNat 0 < 0 then (m.set e.1.toNat e.2.1).set e.2.2.1.toNat e.2.2.2 else m
def gmatB (n : Net) : List Int := (edgesB n).foldl mImpl (List.replicate n.ends.length (-1))
def smatB (n : Net) : List Int := (edgesB n).foldl mSpec (List.replicate n.ends.length 0)
end Go.Proofs.YtlfehdikgbgloaaGreat
namespace Go.Proofs.YtlfehdikgbgloaaGreat
open Go.RowKit
-- the greedy matching: the two ways agree
def edLt (a b : Ed) : Prop := a.1 < b.1 ∨ (a.1 = b.1 ∧ a.2.1 < b.2.1)
theorem edges_mem {n : Net} {x : Ed} (h : x ∈ edgesB n) : ∃ v i : Nat, v < n.ends.length ∧ i < (rowOf n v).length ∧ keepE v i ((rowOf n v).getD i (0, 0)) = true ∧ x = ((v : Int), (i : Int), ((rowOf n v).getD i (0, 0)).1, ((rowOf n v).getD i (0, 0)).2) := by
  unfold edgesB edgesTo erow eone at h
  obtain ⟨v, hv, h⟩ := List.mem_flatMap.1 h
  obtain ⟨i, hi, h⟩ := List.mem_flatMap.1 h
  split at h
  · rename_i hk
    exact ⟨v, i, List.mem_range.1 hv, List.mem_range.1 hi, hk, List.mem_singleton.1 h⟩
  · simp at h
theorem edges_in {n : Net} {v i : Nat} (hv : v < n.ends.length) (hi : i < (rowOf n v).length) (hk : keepE v i ((rowOf n v).getD i (0, 0)) = true) : ((v : Int), (i : Int), ((rowOf n v).getD i (0, 0)).1, ((rowOf n v).getD i (0, 0)).2) ∈ edgesB n := by
  unfold edgesB edgesTo erow eone
  exact List.mem_flatMap.2 ⟨v, List.mem_range.2 hv, List.mem_flatMap.2 ⟨i, List.mem_range.2 hi, by rw [if_pos hk]; exact List.mem_singleton.2 rfl⟩⟩
theorem eone_mem {v i : Nat} {e : Int × Int} {x : Ed} (h : x ∈ eone v i e) : x.1 = v ∧ x.2.1 = i := by
  unfold eone at h
  split at h
  · rw [List.mem_singleton.1 h]; exact ⟨rfl, rfl⟩
  · simp at h
theorem edges_sorted (n : Net) : (edgesB n).Pairwise edLt := by
  unfold edgesB edgesTo
  rw [List.pairwise_flatMap]
  refine ⟨fun v _ => ?_, List.pairwise_lt_range.imp fun {u v} h x hx y hy => ?_⟩
  · unfold erow
    rw [List.pairwise_flatMap]
    refine ⟨fun i _ => ?_, List.pairwise_lt_range.imp fun {i j} h x hx y hy => ?_⟩
    · unfold eone
      split <;> simp
    · have := eone_mem hx
      have := eone_mem hy
      right
      omega
  · unfold erow at hx hy
    obtain ⟨i, -, hx⟩ := List.mem_flatMap.1 hx
    obtain ⟨j, -, hy⟩ := List.mem_flatMap.1 hy
    have := eone_mem hx
    have := eone_mem hy
    left
    omega
theorem pre_mem {n : Net} {L R : List Ed} {e x : Ed} (h : edgesB n = L ++ e :: R) (hx : x ∈ edgesB n) (hl : edLt x e) : x ∈ L := by
  have hs := edges_sorted n
  rw [h] at hs hx
  rw [List.pairwise_append, List.pairwise_cons] at hs
  rcases List.mem_append.1 hx with hx | hx
  · exact hx
  · rcases List.mem_cons.1 hx with rfl | hx
    · unfold edLt at hl; omega
    · have := hs.2.1.1 x hx
      unfold edLt at this hl; omega
def portB (n : Net) (v : Nat) (w : Int) : Int := eidx (fun e => e.1 == w) (rowOf n v)
structure MI (n : Net) (L : List Ed) (m s : List Int) : Prop where
  lm : m.length = n.ends.length
  ls : s.length = n.ends.length
  sum : ∀ v, v < n.ends.length → s.getD v 0 = m.getD v 0 + 1 ∧ -1 ≤ m.getD v 0
  mate : ∀ v, v < n.ends.length → 0 ≤ m.getD v 0 → ∃ w : Nat, w < n.ends.length ∧ w ≠ v ∧ m.getD v 0 < (rowOf n v).length ∧ (rowOf n v).getD (m.getD v 0).toNat (0, 0) = ((w : Int), m.getD w 0) ∧ 0 ≤ m.getD w 0 ∧ (rowOf n w).getD (m.getD w 0).toNat (0, 0) = ((v : Int), m.getD v 0) ∧ (v < w → portB n v w = m.getD v 0)
  past : ∀ x ∈ L, 0 ≤ m.getD x.1.toNat 0 ∨ 0 ≤ m.getD x.2.2.1.toNat 0
theorem getD_set_ne {l : List Int} {a b : Nat} {x : Int} (h : a ≠ b) : (l.set a x).getD b 0 = l.getD b 0 := by
  rw [List.getD_eq_getElem?_getD, List.getElem?_set_ne h, ← List.getD_eq_getElem?_getD]
theorem getD_set_eq {l : List Int} {a : Nat} {x : Int} (h : a < l.length) : (l.set a x).getD a 0 = x := by
  simp [List.getD_eq_getElem?_getD, h]
theorem row_back {n : Net} (hn : netOk n = true) {v i : Nat} (hv : v < n.ends.length) (hi : i < (rowOf n v).length) :
    ∃ w j : Nat, (rowOf n v).getD i (0, 0) = ((w : Int), (j : Int)) ∧ w < n.ends.length ∧ j < (rowOf n w).length ∧ (rowOf n w).getD j (0, 0) = ((v : Int), (i : Int)) := by
  have hp : hasPortB n.ends v i = true := by
    unfold hasPortB inB
    unfold rowOf at hi
    simp only [Bool.and_eq_true, decide_eq_true_eq, Int.toNat_natCast]
    omega
  obtain ⟨hp2, e2⟩ := netOk_end hn hp
  obtain ⟨e, he⟩ : ∃ e, e = endAt n.ends v i := ⟨_, rfl⟩
  rw [← he] at hp2 e2
  have he2 : (rowOf n v).getD i (0, 0) = e := by rw [he]; unfold endAt rowOf; rw [Int.toNat_natCast, Int.toNat_natCast]
  obtain ⟨q1, q2⟩ : (0 ≤ e.1 ∧ e.1 < n.ends.length) ∧ (0 ≤ e.2 ∧ e.2 < (n.ends.getD e.1.toNat []).length) := by
    unfold hasPortB inB at hp2
    simp only [Bool.and_eq_true, decide_eq_true_eq] at hp2
    omega
  refine ⟨e.1.toNat, e.2.toNat, ?_, by omega, by unfold rowOf; omega, ?_⟩
  · rw [he2]
    apply Prod.ext
    · show e.1 = _; omega
    · show e.2 = _; omega
  · unfold endAt at e2; unfold rowOf; exact e2
theorem port_first {n : Net} {v i : Nat} {w : Int} (hi : i < (rowOf n v).length) (hw : ((rowOf n v).getD i (0, 0)).1 = w) (hno : ∀ j, j < i → ((rowOf n v).getD j (0, 0)).1 ≠ w) : portB n v w = i := by
  have : (rowOf n v).findIdx? (fun e => e.1 == w) = some i := by
    rw [List.findIdx?_eq_some_iff_getElem]
    have e : ∀ j (h : j < (rowOf n v).length), (rowOf n v)[j] = (rowOf n v).getD j (0, 0) := fun j h => by rw [List.getD_eq_getElem?_getD, List.getElem?_eq_getElem h]; rfl
    refine ⟨hi, by rw [e i hi]; simpa using hw, fun j hj => ?_⟩
    rw [e j (by omega)]
    simpa using hno j hj
  unfold portB eidx
  rw [this]
theorem MI.step {n : Net} (hn : netOk n = true) (hp : plainB n = true) {L R : List Ed} {e : Ed} (hL : edgesB n = L ++ e :: R) {m s : List Int} (h : MI n L m s) : MI n (L ++ [e]) (mImpl m e) (mSpec s e) := by
  have he : e ∈ edgesB n := by rw [hL]; simp
  obtain ⟨v, i, hv, hi, hk, rfl⟩ := edges_mem he
  obtain ⟨w, j, e1, hw, hj, e2⟩ := row_back hn hv hi
  rw [e1] at hk hL ⊢
  have hne : w ≠ v := fun e => by
    subst e
    refine plain_row hp hv (w : Int) ?_ rfl
    unfold bsee
    rw [Int.toNat_natCast]
    refine List.mem_map.2 ⟨(rowOf n w).getD i (0, 0), ?_, by rw [e1]⟩
    show (rowOf n w).getD i (0, 0) ∈ rowOf n w
    rw [List.getD_eq_getElem?_getD, List.getElem?_eq_getElem hi]
    exact List.getElem_mem hi
  have hvw : v < w := by
    unfold keepE at hk
    simp only [Bool.or_eq_true, Bool.and_eq_true, decide_eq_true_eq, beq_iff_eq] at hk
    omega
  have s1 := h.sum v hv
  have s2 := h.sum w hw
  unfold mImpl mSpec
  simp only [Int.toNat_natCast]
  by_cases hc : m.getD v 0 < 0 ∧ m.getD w 0 < 0
  · rw [if_pos ⟨by omega, hc⟩, if_pos (by omega)]
    have lv : v < m.length := by rw [h.lm]; exact hv
    have lw : w < m.length := by rw [h.lm]; exact hw
    have lv' : v < s.length := by rw [h.ls]; exact hv
    have lw' : w < s.length := by rw [h.ls]; exact hw
    have qv : ((m.set v (i : Int)).set w (j : Int)).getD v 0 = i := by rw [getD_set_ne hne, getD_set_eq lv]
    have qw : ((m.set v (i : Int)).set w (j : Int)).getD w 0 = j := getD_set_eq (by rw [List.length_set]; exact lw)
    have go : ∀ u, u ≠ v → u ≠ w → ((m.set v (i : Int)).set w (j : Int)).getD u 0 = m.getD u 0 := fun u h1 h2 => by rw [getD_set_ne (Ne.symm h2), getD_set_ne (Ne.symm h1)]
    have qv' : ((s.set v ((i : Int) + 1)).set w ((j : Int) + 1)).getD v 0 = (i : Int) + 1 := by rw [getD_set_ne hne, getD_set_eq lv']
    have qw' : ((s.set v ((i : Int) + 1)).set w ((j : Int) + 1)).getD w 0 = (j : Int) + 1 := getD_set_eq (by rw [List.length_set]; exact lw')
    have go' : ∀ u, u ≠ v → u ≠ w → ((s.set v ((i : Int) + 1)).set w ((j : Int) + 1)).getD u 0 = s.getD u 0 := fun u h1 h2 => by rw [getD_set_ne (Ne.symm h2), getD_set_ne (Ne.symm h1)]
    have hfirst : portB n v w = i := by
      refine port_first hi (by rw [e1]) fun j' hj' hb => ?_
      have hk' : keepE v j' ((rowOf n v).getD j' (0, 0)) = true := by
        unfold keepE
        rw [hb]
        simp only [Bool.or_eq_true, decide_eq_true_eq]
        left; omega
      have hm := edges_in hv (show j' < (rowOf n v).length by omega) hk'
      have hin := pre_mem hL hm (.inr ⟨rfl, by show (j' : Int) < (i : Int); omega⟩)
      have := h.past _ hin
      simp only [hb, Int.toNat_natCast] at this
      omega
    have hml : ((m.set v (i : Int)).set w (j : Int)).length = n.ends.length := by simp [h.lm]
    generalize (m.set v (i : Int)).set w (j : Int) = m' at *
    refine ⟨hml, by simp [h.ls], fun u hu => ?_, fun u hu h0 => ?_, fun x hx => ?_⟩
    · by_cases u1 : u = v
      · subst u1; rw [qv, qv']; omega
      · by_cases u2 : u = w
        · subst u2; rw [qw, qw']; omega
        · rw [go u u1 u2, go' u u1 u2]; exact h.sum u hu
    · by_cases u1 : u = v
      · subst u1
        refine ⟨w, hw, hne, by rw [qv]; omega, by rw [qv, qw, Int.toNat_natCast]; exact e1, by rw [qw]; omega, by rw [qw, qv, Int.toNat_natCast]; exact e2, fun _ => by rw [qv]; exact hfirst⟩
      · by_cases u2 : u = w
        · subst u2
          exact ⟨v, hv, fun e => u1 e.symm, by rw [qw]; omega, by rw [qv, qw, Int.toNat_natCast]; exact e2, by rw [qv]; omega, by rw [qw, qv, Int.toNat_natCast]; exact e1, fun hlt => by omega⟩
        · rw [go u u1 u2] at h0 ⊢
          obtain ⟨x, x1, x2, x3, x4, x5, x6, x7⟩ := h.mate u hu h0
          have y1 : x ≠ v := fun e => by subst e; omega
          have y2 : x ≠ w := fun e => by subst e; omega
          exact ⟨x, x1, x2, x3, by rw [go x y1 y2]; exact x4, by rw [go x y1 y2]; exact x5, by rw [go x y1 y2]; exact x6, x7⟩
    · have mono : ∀ u, 0 ≤ m.getD u 0 → 0 ≤ m'.getD u 0 := fun u hu => by
        by_cases u1 : u = v
        · subst u1; omega
        · by_cases u2 : u = w
          · subst u2; omega
          · rw [go u u1 u2]; exact hu
      rcases List.mem_append.1 hx with hx | hx
      · rcases h.past x hx with h1 | h1
        · exact .inl (mono _ h1)
        · exact .inr (mono _ h1)
      · rw [List.mem_singleton.1 hx]
        left
        show 0 ≤ m'.getD ((v : Int)).toNat 0
        rw [Int.toNat_natCast, qv]; omega
  · rw [if_neg (fun hh => hc hh.2), if_neg (by omega)]
    refine { h with past := fun x hx => ?_ }
    rcases List.mem_append.1 hx with hx | hx
    · exact h.past x hx
    · rw [List.mem_singleton.1 hx]
      show 0 ≤ m.getD ((v : Int)).toNat 0 ∨ 0 ≤ m.getD ((w : Int)).toNat 0
      rw [Int.toNat_natCast, Int.toNat_natCast]; omega
theorem MI.fold {n : Net} (hn : netOk n = true) (hp : plainB n = true) : ∀ (R L : List Ed) {m s : List Int}, edgesB n = L ++ R → MI n L m s → MI n (edgesB n) (R.foldl mImpl m) (R.foldl mSpec s)
  | [], L, m, s, hL, h => by rw [hL, List.append_nil]; exact h
  | e :: R, L, m, s, hL, h => MI.fold hn hp R (L ++ [e]) (by rw [hL, List.append_assoc]; rfl) (h.step hn hp hL)
theorem mat_ok {n : Net} (hn : netOk n = true) (hp : plainB n = true) : MI n (edgesB n) (gmatB n) (smatB n) :=
  MI.fold hn hp (edgesB n) [] rfl ⟨by simp, by simp, fun v hv => by simp [List.getD_eq_getElem?_getD, hv], fun v hv h0 => by simp [List.getD_eq_getElem?_getD, hv] at h0, fun x hx => by simp at hx⟩
-- the states out of the matching, as the program makes them
def nodeAt (n : Net) (v : Nat) (i : Int) : Int := ((rowOf n v).getD i.toNat (0, 0)).1
def lmSkip (n : Net) (m : List Int) (v : Nat) : Bool := decide (m.getD v 0 < 0) || decide (nodeAt n v (m.getD v 0) < v)
def lmPort (n : Net) (m : List Int) (v : Nat) : Int := portB n v (nodeAt n v (m.getD v 0))
def lmPut (n : Net) (m out : List Int) (v : Nat) : List Int :=
  if lmSkip n m v = true then out else (out.set v (lmPort n m v + 1)).set (nodeAt n v (lmPort n m v)).toNat (((rowOf n v).getD (lmPort n m v).toNat (0, 0)).2 + 1)
def lmatB (n : Net) (k : Nat) : List Int := (List.range k).foldl (lmPut n (gmatB n)) (List.replicate n.ends.length 0)
def lmVal (n : Net) (m : List Int) (k u : Nat) : Int := if 0 ≤ m.getD u 0 ∧ (u < k ∨ nodeAt n u (m.getD u 0) < k) then m.getD u 0 + 1 else 0
theorem lm_step {n : Net} {L : List Ed} {m s : List Int} (h : MI n L m s) {k : Nat} (hk : k < n.ends.length) {out : List Int} (hl : out.length = n.ends.length) (ho : ∀ u, u < n.ends.length → out.getD u 0 = lmVal n m k u) :
    (lmPut n m out k).length = n.ends.length ∧ ∀ u, u < n.ends.length → (lmPut n m out k).getD u 0 = lmVal n m (k + 1) u := by
  unfold lmPut
  cases hs : lmSkip n m k
  · rw [if_neg (by simp)]
    unfold lmSkip at hs
    simp only [Bool.or_eq_false_iff, decide_eq_false_iff_not] at hs
    obtain ⟨w, w1, w2, w3, w4, w5, w6, w7⟩ := h.mate k hk (by omega)
    have hnk : nodeAt n k (m.getD k 0) = w := by unfold nodeAt; rw [w4]
    have hkw : k < w := by omega
    have hport : lmPort n m k = m.getD k 0 := by unfold lmPort; rw [hnk]; exact w7 hkw
    rw [hport, hnk, w4, Int.toNat_natCast]
    refine ⟨by simp [hl], fun u hu => ?_⟩
    by_cases u2 : u = w
    · subst u2
      rw [getD_set_eq (by rw [List.length_set, hl]; exact hu)]
      unfold lmVal
      have : nodeAt n u (m.getD u 0) = k := by unfold nodeAt; rw [w6]
      rw [this, if_pos (by omega)]
    · rw [getD_set_ne (Ne.symm u2)]
      by_cases u1 : u = k
      · subst u1
        rw [getD_set_eq (by rw [hl]; exact hu)]
        unfold lmVal
        rw [if_pos (by omega)]
      · rw [getD_set_ne (Ne.symm u1), ho u hu]
        unfold lmVal
        by_cases h0 : 0 ≤ m.getD u 0
        · obtain ⟨x, x1, x2, x3, x4, x5, x6, x7⟩ := h.mate u hu h0
          have hx : nodeAt n u (m.getD u 0) = x := by unfold nodeAt; rw [x4]
          have : x ≠ k := fun e => by
            subst e
            have e3 := x6.symm.trans w4
            have := congrArg Prod.fst e3
            simp only at this
            omega
          rw [hx]
          split <;> split <;> omega
        · rw [if_neg (by omega), if_neg (by omega)]
  · rw [if_pos rfl]
    refine ⟨hl, fun u hu => ?_⟩
    rw [ho u hu]
    unfold lmVal
    unfold lmSkip at hs
    simp only [Bool.or_eq_true, decide_eq_true_eq] at hs
    by_cases h0 : 0 ≤ m.getD u 0
    · obtain ⟨x, x1, x2, x3, x4, x5, x6, x7⟩ := h.mate u hu h0
      have hx : nodeAt n u (m.getD u 0) = x := by unfold nodeAt; rw [x4]
      rw [hx]
      by_cases hxk : x = k
      · subst hxk
        have : nodeAt n x (m.getD x 0) = u := by unfold nodeAt; rw [x6]
        split <;> split <;> omega
      · by_cases huk : u = k
        · subst huk
          split <;> split <;> omega
        · split <;> split <;> omega
    · rw [if_neg (by omega), if_neg (by omega)]
theorem lm_all {n : Net} {L : List Ed} {s : List Int} (h : MI n L (gmatB n) s) : ∀ (k : Nat), k ≤ n.ends.length → (lmatB n k).length = n.ends.length ∧ ∀ u, u < n.ends.length → (lmatB n k).getD u 0 = lmVal n (gmatB n) k u
  | 0, _ => by
    refine ⟨by simp [lmatB], fun u hu => ?_⟩
    unfold lmVal
    have e : (lmatB n 0).getD u 0 = 0 := by simp [lmatB, List.getD_eq_getElem?_getD, hu]
    rw [e, if_neg]
    rintro ⟨h0, h1⟩
    obtain ⟨x, x1, x2, x3, x4, x5, x6, x7⟩ := h.mate u hu h0
    have hx : nodeAt n u ((gmatB n).getD u 0) = x := by unfold nodeAt; rw [x4]
    omega
  | k + 1, hk => by
    have ih := lm_all h k (by omega)
    have := lm_step h (k := k) (by omega) ih.1 ih.2
    have e : lmatB n (k + 1) = lmPut n (gmatB n) (lmatB n k) k := by unfold lmatB; rw [List.range_succ, List.foldl_append]; rfl
    rw [e]
    exact this
theorem lmat_eq {n : Net} (hn : netOk n = true) (hp : plainB n = true) : lmatB n n.ends.length = smatB n := by
  have h := mat_ok hn hp
  have ha := lm_all h n.ends.length (Nat.le_refl _)
  apply List.ext_getElem
  · rw [ha.1, h.ls]
  · intro u h1 h2
    have hu : u < n.ends.length := by rw [← ha.1]; exact h1
    have e1 := ha.2 u hu
    have e2 := h.sum u hu
    rw [List.getD_eq_getElem?_getD, List.getElem?_eq_getElem h1] at e1
    rw [List.getD_eq_getElem?_getD, List.getElem?_eq_getElem h2] at e2
    simp only [Option.getD_some] at e1 e2
    rw [e1, e2.1]
    unfold lmVal
    by_cases h0 : 0 ≤ (gmatB n).getD u 0
    · rw [if_pos ⟨h0, .inl hu⟩]
    · rw [if_neg (fun hh => h0 hh.1)]; omega
end Go.Proofs.YtlfehdikgbgloaaGreat
