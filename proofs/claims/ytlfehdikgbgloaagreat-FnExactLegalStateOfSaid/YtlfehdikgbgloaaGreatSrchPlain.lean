import Derived.Test.YtlfehdikgbgloaaGreatNear
import Derived.Test.YtlfehdikgbgloaaGreatMod1
namespace Go.Proofs.YtlfehdikgbgloaaGreat
open Go.RowKit
/-! the search for labels as a machine: the labels, the place, the steps made -/
def srch (good : List Int → Nat → Bool) (most lim : Int) : Nat → List Int → Nat → Int → List Int × Int × Int
  | 0, _, _, made => ([], 0, made)
  | f + 1, ls, v, made =>
    if v < ls.length then
      if ls.getD v 0 = most then (if v = 0 then ([], 2, made) else srch good most lim f (ls.set v (-1)) (v - 1) made)
      else if made = lim then ([], 3, made)
      else srch good most lim f (ls.set v (ls.getD v 0 + 1)) (if good (ls.set v (ls.getD v 0 + 1)) v then v + 1 else v) (made + 1)
    else (ls, 1, made)
theorem srch_end {good : List Int → Nat → Bool} {most lim made : Int} {f v : Nat} {ls : List Int} (h : ¬ v < ls.length) : srch good most lim (f + 1) ls v made = (ls, 1, made) := by simp only [srch, if_neg h]
theorem srch_none {good : List Int → Nat → Bool} {most lim made : Int} {f : Nat} {ls : List Int} (h : 0 < ls.length) (hm : ls.getD 0 0 = most) : srch good most lim (f + 1) ls 0 made = ([], 2, made) := by simp only [srch, if_pos h, if_pos hm, if_pos]
theorem srch_back {good : List Int → Nat → Bool} {most lim made : Int} {f v : Nat} {ls : List Int} (h : v < ls.length) (hm : ls.getD v 0 = most) (h0 : ¬ v = 0) : srch good most lim (f + 1) ls v made = srch good most lim f (ls.set v (-1)) (v - 1) made := by simp only [srch, if_pos h, if_pos hm, if_neg h0]
theorem srch_stop {good : List Int → Nat → Bool} {most lim : Int} {f v : Nat} {ls : List Int} (h : v < ls.length) (hm : ¬ ls.getD v 0 = most) : srch good most lim (f + 1) ls v lim = ([], 3, lim) := by simp only [srch, if_pos h, if_neg hm, if_pos]
theorem srch_inc {good : List Int → Nat → Bool} {most lim made : Int} {f v : Nat} {ls : List Int} (h : v < ls.length) (hm : ¬ ls.getD v 0 = most) (hl : ¬ made = lim) : srch good most lim (f + 1) ls v made = srch good most lim f (ls.set v (ls.getD v 0 + 1)) (if good (ls.set v (ls.getD v 0 + 1)) v then v + 1 else v) (made + 1) := by simp only [srch, if_pos h, if_neg hm, if_neg hl]
theorem getD_set (ls : List Int) (v j : Nat) (x : Int) (hj : j < ls.length) : (ls.set v x).getD j 0 = if v = j then x else ls.getD j 0 := by
  simp only [List.getD_eq_getElem?_getD, List.getElem?_set]
  split
  · rename_i e; subst e; simp [hj]
  · rfl
/-- what is so ahead of a round -/
structure St (N : Nat) (most : Int) (ls : List Int) (v : Nat) : Prop where
  len : ls.length = N
  lo : ∀ j, j < v → j < N → 0 ≤ ls.getD j 0 ∧ ls.getD j 0 ≤ most
  at_ : v < N → -1 ≤ ls.getD v 0 ∧ ls.getD v 0 ≤ most
  hi : ∀ j, v < j → j < N → ls.getD j 0 = -1
/-- what is so when a label has been raised -/
structure Up (N : Nat) (most : Int) (ls : List Int) (v : Nat) : Prop where
  len : ls.length = N
  lo : ∀ j, j ≤ v → j < N → 0 ≤ ls.getD j 0 ∧ ls.getD j 0 ≤ most
  hi : ∀ j, v < j → j < N → ls.getD j 0 = -1
theorem St.start (N : Nat) (most : Int) (hm : 0 ≤ most) : St N most (List.replicate N (-1)) 0 where
  len := by simp
  lo := fun j hj => by omega
  at_ := fun h => by simp [List.getD_eq_getElem?_getD, List.getElem?_replicate, h]; omega
  hi := fun j _ h => by simp [List.getD_eq_getElem?_getD, List.getElem?_replicate, h]
theorem St.back {N : Nat} {most : Int} {ls : List Int} {v : Nat} (h : St N most ls v) (h0 : ¬ v = 0) : St N most (ls.set v (-1)) (v - 1) where
  len := by simp [h.len]
  lo := fun j hj hn => by rw [getD_set _ _ _ _ (by rw [h.len]; exact hn), if_neg (by omega)]; exact h.lo j (by omega) hn
  at_ := fun hn => by rw [getD_set _ _ _ _ (by rw [h.len]; exact hn), if_neg (by omega)]; have := h.lo (v - 1) (by omega) hn; omega
  hi := fun j hj hn => by
    rw [getD_set _ _ _ _ (by rw [h.len]; exact hn)]
    split
    · rfl
    · exact h.hi j (by omega) hn
theorem St.up {N : Nat} {most : Int} {ls : List Int} {v : Nat} (h : St N most ls v) (hv : v < N) (hm : ¬ ls.getD v 0 = most) : Up N most (ls.set v (ls.getD v 0 + 1)) v where
  len := by simp [h.len]
  lo := fun j hj hn => by
    rw [getD_set _ _ _ _ (by rw [h.len]; exact hn)]
    have := h.at_ hv
    split
    · omega
    · exact h.lo j (by omega) hn
  hi := fun j hj hn => by rw [getD_set _ _ _ _ (by rw [h.len]; exact hn), if_neg (by omega)]; exact h.hi j hj hn
theorem Up.stay {N : Nat} {most : Int} {ls : List Int} {v : Nat} (h : Up N most ls v) : St N most ls v where
  len := h.len
  lo := fun j hj hn => h.lo j (by omega) hn
  at_ := fun hn => by have := h.lo v (Nat.le_refl _) hn; omega
  hi := h.hi
theorem Up.on {N : Nat} {most : Int} {ls : List Int} {v : Nat} (h : Up N most ls v) (hm : 0 ≤ most) : St N most ls (v + 1) where
  len := h.len
  lo := fun j hj hn => h.lo j (by omega) hn
  at_ := fun hn => by have := h.hi (v + 1) (by omega) hn; omega
  hi := fun j hj hn => h.hi j (by omega) hn
/-- how many rounds are left at most -/
def leftM (lim made : Int) (N v : Nat) : Nat := (lim - made).toNat * (N + 2) + v + 1
theorem left_back {lim made : Int} {N v : Nat} (h0 : ¬ v = 0) : leftM lim made N (v - 1) + 1 ≤ leftM lim made N v := by unfold leftM; omega
theorem left_inc {lim made : Int} {N v v' : Nat} (h : made ≤ lim) (hl : ¬ made = lim) (hv : v' ≤ v + 1) : leftM lim (made + 1) N v' + 1 ≤ leftM lim made N v := by
  unfold leftM
  have e : (lim - made).toNat = (lim - (made + 1)).toNat + 1 := by omega
  rw [e, Nat.add_mul, Nat.one_mul]
  omega
/-- node w and all its neighbours are not behind v -/
def knownB (n : Net) (w : Int) (v : Nat) : Bool := decide (w ≤ v) && ((n.ends.getD w.toNat []).map fun e => e.1).all (inB 0 v)
/-- node w and all its neighbours have labels -/
def fullB (n : Net) (ls : List Int) (w : Int) : Bool := decide (0 ≤ ls.getD w.toNat 0) && !(nearB ls (n.ends.getD w.toNat [])).contains (-1)
def viewG (n : Net) (v : Nat) : List Int := ((n.ends.getD v []).map fun e => e.1) ++ [(v : Int)]
def goodG (n : Net) (acc : List Int → Nat → Bool) (ls : List Int) (v : Nat) : Bool := (viewG n v).all fun w => !knownB n w v || acc ls w.toNat
theorem full_known {n : Net} {most : Int} {ls : List Int} {v : Nat} {w : Int} (hn : netOk n = true) (h : Up n.ends.length most ls v) (h0 : 0 ≤ w) (h1 : w < n.ends.length) : fullB n ls w = knownB n w v := by
  obtain ⟨k, rfl⟩ := Int.eq_ofNat_of_zero_le h0
  have hk : k < n.ends.length := by omega
  obtain ⟨es, hes⟩ := getx n.ends k hk
  obtain ⟨-, hin⟩ := netOk_row hn hes
  have own : ∀ j : Nat, j < n.ends.length → (0 ≤ ls.getD j 0 ↔ j ≤ v) := fun j hj => by
    constructor
    · intro hp
      by_cases hjv : j ≤ v
      · exact hjv
      · have := h.hi j (by omega) hj; omega
    · intro hjv; exact (h.lo j hjv hj).1
  have hg : n.ends.getD k [] = es := by simp [List.getD_eq_getElem?_getD, hes]
  unfold fullB knownB
  simp only [Int.toNat_natCast, hg]
  rw [Bool.eq_iff_iff]
  simp only [Bool.and_eq_true, decide_eq_true_eq, Bool.not_eq_true', List.all_eq_true, List.mem_map, forall_exists_index, and_imp, forall_apply_eq_imp_iff₂]
  rw [own k hk]
  constructor
  · rintro ⟨a, b⟩
    refine ⟨by omega, fun e he => inB_iff.2 ?_⟩
    obtain ⟨i1, i2⟩ := hin e he
    refine ⟨i1, ?_⟩
    have hj : e.1.toNat < n.ends.length := by omega
    by_cases hv : e.1.toNat ≤ v
    · omega
    · have hm := h.hi e.1.toNat (by omega) hj
      have : (nearB ls es).contains (-1) = true := by rw [List.contains_iff_mem]; exact List.mem_map.2 ⟨e, he, hm⟩
      rw [this] at b; cases b
  · rintro ⟨a, b⟩
    refine ⟨by omega, ?_⟩
    rw [Bool.eq_false_iff]
    intro hc
    rw [List.contains_iff_mem] at hc
    obtain ⟨e, he, hm⟩ := List.mem_map.1 hc
    obtain ⟨i1, i2⟩ := hin e he
    have := inB_iff.1 (b e he)
    have := (own e.1.toNat (by omega)).2 (by omega)
    omega
theorem known_seen {n : Net} {most : Int} {ls : List Int} {v : Nat} {w : Int} (hn : netOk n = true) (h : Up n.ends.length most ls v) (h0 : 0 ≤ w) (h1 : w < n.ends.length) (hk : knownB n w v = true) : ∀ x ∈ ls.getD w.toNat 0 :: nearB ls (n.ends.getD w.toNat []), 0 ≤ x ∧ x ≤ most := by
  obtain ⟨k, rfl⟩ := Int.eq_ofNat_of_zero_le h0
  have hk' : k < n.ends.length := by omega
  obtain ⟨es, hes⟩ := getx n.ends k hk'
  obtain ⟨-, hin⟩ := netOk_row hn hes
  have hg : n.ends.getD k [] = es := by simp [List.getD_eq_getElem?_getD, hes]
  unfold knownB at hk
  simp only [Int.toNat_natCast, hg] at hk ⊢
  simp only [Bool.and_eq_true, decide_eq_true_eq, List.all_eq_true, List.mem_map, forall_exists_index, and_imp, forall_apply_eq_imp_iff₂] at hk
  intro x hx
  rcases List.mem_cons.1 hx with rfl | hx
  · exact h.lo k (by omega) hk'
  · obtain ⟨e, he, rfl⟩ := List.mem_map.1 hx
    obtain ⟨i1, i2⟩ := hin e he
    have := inB_iff.1 (hk.2 e he)
    exact h.lo e.1.toNat (by omega) (by omega)
theorem view_in {n : Net} {v : Nat} (hn : netOk n = true) (hv : v < n.ends.length) : ∀ w ∈ viewG n v, 0 ≤ w ∧ w < n.ends.length := by
  intro w hw
  obtain ⟨es, hes⟩ := getx n.ends v hv
  obtain ⟨-, hin⟩ := netOk_row hn hes
  have hg : n.ends.getD v [] = es := by simp [List.getD_eq_getElem?_getD, hes]
  unfold viewG at hw
  rw [hg] at hw
  rcases List.mem_append.1 hw with hw | hw
  · obtain ⟨e, he, rfl⟩ := List.mem_map.1 hw; exact hin e he
  · simp at hw; subst hw; omega
end Go.Proofs.YtlfehdikgbgloaaGreat
