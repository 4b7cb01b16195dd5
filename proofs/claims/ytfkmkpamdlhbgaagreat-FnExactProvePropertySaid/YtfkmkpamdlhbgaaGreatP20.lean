/- Parts of the proof: walks of functions and plain laws. -/
import Derived.Test.YtfkmkpamdlhbgaaGreatP0
import Derived.Test.YtfkmkpamdlhbgaaGreatP16
import Derived.Test.YtfkmkpamdlhbgaaGreatP7
import Derived.BigQuiet
import Derived.Test.YtfkmkpamdlhbgaaGreatP4
import Derived.Laws.Bits64b
import Derived.Test.YtfkmkpamdlhbgaaGreatP3
import Derived.Test.YtfkmkpamdlhbgaaGreatP1
import Derived.BigRegion
namespace Go.Proofs.YtfkmkpamdlhbgaaGreat
open Go.RowKit
/-! a stable sort by symMerge: the plain law -/
def swp (xs : List Int) (i j : Nat) : List Int := (xs.set i (xs.getD j 0)).set j (xs.getD i 0)
theorem swp_len (xs : List Int) (i j : Nat) : (swp xs i j).length = xs.length := by simp [swp]
theorem swp_app (L1 L2 L3 : List Int) (x y : Int) : swp (L1 ++ x :: (L2 ++ y :: L3)) L1.length (L1.length + 1 + L2.length) = L1 ++ y :: (L2 ++ x :: L3) := by
  have e1 : (L1 ++ x :: (L2 ++ y :: L3)).getD L1.length 0 = x := by simp [List.getD_eq_getElem?_getD]
  have e2 : (L1 ++ x :: (L2 ++ y :: L3)).getD (L1.length + 1 + L2.length) 0 = y := by
    rw [List.getD_eq_getElem?_getD, List.getElem?_append_right (by omega), show L1.length + 1 + L2.length - L1.length = L2.length + 1 by omega, List.getElem?_cons_succ, List.getElem?_append_right (Nat.le_refl _)]
    simp
  unfold swp
  rw [e1, e2, List.set_append_right _ _ (Nat.le_refl _), Nat.sub_self, List.set_cons_zero, List.set_append_right _ _ (by omega), show L1.length + 1 + L2.length - L1.length = L2.length + 1 by omega, List.set_cons_succ, List.set_append_right _ _ (Nat.le_refl _), Nat.sub_self, List.set_cons_zero]
theorem swp_comm (xs : List Int) (i j : Nat) (h : i ≠ j) : swp xs i j = swp xs j i := by
  unfold swp
  exact List.set_comm _ _ h
/-- swapRange: after k rounds -/
def swR (A P M Q B : List Int) (k : Nat) : List Int := A ++ (Q.take k ++ (P.drop k ++ (M ++ (P.take k ++ (Q.drop k ++ B)))))
theorem swR_zero (A P M Q B : List Int) : swR A P M Q B 0 = A ++ (P ++ (M ++ (Q ++ B))) := by simp [swR]
theorem swR_end (A P M Q B : List Int) (h : P.length = Q.length) : swR A P M Q B P.length = A ++ (Q ++ (M ++ (P ++ B))) := by simp [swR, h ▸ List.take_length, h]
theorem swR_step (A P M Q B : List Int) (h : P.length = Q.length) {k : Nat} (hk : k < P.length) : swp (swR A P M Q B k) (A.length + k) (A.length + P.length + M.length + k) = swR A P M Q B (k + 1) := by
  have hq : k < Q.length := by omega
  have e1 : P.drop k = P[k] :: P.drop (k + 1) := List.drop_eq_getElem_cons hk
  have e2 : Q.drop k = Q[k] :: Q.drop (k + 1) := List.drop_eq_getElem_cons hq
  have e3 : P.take (k + 1) = P.take k ++ [P[k]] := by simp
  have e4 : Q.take (k + 1) = Q.take k ++ [Q[k]] := by simp
  have g := swp_app (A ++ Q.take k) (P.drop (k + 1) ++ (M ++ P.take k)) (Q.drop (k + 1) ++ B) P[k] Q[k]
  have l1 : (A ++ Q.take k).length = A.length + k := by rw [List.length_append, List.length_take]; omega
  have l2 : (P.drop (k + 1) ++ (M ++ P.take k)).length = P.length - (k + 1) + (M.length + k) := by rw [List.length_append, List.length_append, List.length_drop, List.length_take]; omega
  rw [l1, l2] at g
  unfold swR
  rw [e1, e2, e3, e4]
  rw [show A.length + P.length + M.length + k = A.length + k + 1 + (P.length - (k + 1) + (M.length + k)) by omega]
  simp only [List.append_assoc, List.cons_append, List.nil_append] at g ⊢
  exact g
/-- the rotation: what lies between -/
structure Rot (A U V B : List Int) (m i j : Nat) (xs : List Int) : Prop where
  ex : ∃ X1 P Q X2 : List Int, xs = A ++ (X1 ++ (P ++ (Q ++ (X2 ++ B)))) ∧ P.length = i ∧ Q.length = j ∧ A.length + X1.length + i = m ∧ A ++ (X1 ++ (Q ++ (P ++ (X2 ++ B)))) = A ++ (V ++ (U ++ B))
theorem Rot.start (A U V B : List Int) : Rot A U V B (A.length + U.length) U.length V.length (A ++ (U ++ (V ++ B))) := ⟨[], U, V, [], by simp, rfl, rfl, by simp, by simp⟩
abbrev Srt (K : Int → Int) (l : List Int) : Prop := l.Pairwise (fun x y => K x ≤ K y)
/-- the four parts in the middle of symMerge -/
structure Par (K : Int → Int) (U1 U2 V1 V2 : List Int) : Prop where
  u : ∀ x ∈ U1, ∀ y ∈ U2, K x ≤ K y
  v : ∀ x ∈ V1, ∀ y ∈ V2, K x ≤ K y
  uv : ∀ x ∈ U1, ∀ y ∈ V2, K x ≤ K y
  vu : ∀ x ∈ V1, ∀ y ∈ U2, K x ≤ K y
theorem srt_join {K : Int → Int} {a b : List Int} (ha : Srt K a) (hb : Srt K b) (h : ∀ x ∈ a, ∀ y ∈ b, K x ≤ K y) : Srt K (a ++ b) := List.pairwise_append.2 ⟨ha, hb, h⟩
/-- sorted parts, by the first and the last -/
theorem srt_last {K : Int → Int} {l : List Int} (h : Srt K l) {k : Nat} (hk : k < l.length) (x : Int) (hx : x ∈ l.take (k + 1)) : K x ≤ K l[k] := by
  obtain ⟨i, hi, rfl⟩ := List.mem_iff_getElem.1 hx
  rw [List.length_take] at hi
  rw [List.getElem_take]
  rcases Nat.lt_or_eq_of_le (show i ≤ k by omega) with h1 | h1
  · exact List.pairwise_iff_getElem.1 h i k (by omega) hk h1
  · subst h1; exact Int.le_refl _
theorem srt_first {K : Int → Int} {l : List Int} (h : Srt K l) {k : Nat} (hk : k < l.length) (x : Int) (hx : x ∈ l.drop k) : K l[k] ≤ K x := by
  obtain ⟨i, hi, rfl⟩ := List.mem_iff_getElem.1 hx
  rw [List.length_drop] at hi
  rw [List.getElem_drop]
  rcases Nat.eq_zero_or_pos i with h1 | h1
  · subst h1; exact Int.le_refl _
  · exact List.pairwise_iff_getElem.1 h k (k + i) hk (by omega) (by omega)
theorem srt_cut {K : Int → Int} {l : List Int} (h : Srt K l) (k : Nat) : ∀ x ∈ l.take k, ∀ y ∈ l.drop k, K x ≤ K y := by
  rw [← List.take_append_drop k l] at h
  exact (List.pairwise_append.1 h).2.2
/-- what the binary search of symMerge ends with -/
theorem par_of {K : Int → Int} {U V : List Int} (hU : Srt K U) (hV : Srt K V) {s e : Nat} (hs : s ≤ U.length) (he : e ≤ V.length)
    (h1 : s = 0 ∨ e = V.length ∨ ∃ (a : s - 1 < U.length) (b : e < V.length), K U[s - 1] ≤ K V[e])
    (h2 : s = U.length ∨ e = 0 ∨ ∃ (a : s < U.length) (b : e - 1 < V.length), K V[e - 1] ≤ K U[s]) :
    Par K (U.take s) (U.drop s) (V.take e) (V.drop e) := by
  refine ⟨srt_cut hU s, srt_cut hV e, fun x hx y hy => ?_, fun x hx y hy => ?_⟩
  · rcases h1 with h | h | ⟨a, b, h⟩
    · subst h; simp at hx
    · subst h; simp at hy
    · rcases Nat.eq_zero_or_pos s with h0 | h0
      · subst h0; simp at hx
      · have g1 := srt_last hU a x (by rwa [show s - 1 + 1 = s by omega])
        have g2 := srt_first hV b y hy
        omega
  · rcases h2 with h | h | ⟨a, b, h⟩
    · subst h; simp at hy
    · subst h; simp at hx
    · rcases Nat.eq_zero_or_pos e with h0 | h0
      · subst h0; simp at hx
      · have g1 := srt_last hV b x (by rwa [show e - 1 + 1 = e by omega])
        have g2 := srt_first hU a y hy
        omega
/-- the parts, merged each -/
theorem par_join {K : Int → Int} {U1 U2 V1 V2 W1 W2 : List Int} (h : Par K U1 U2 V1 V2) (p1 : W1.Perm (U1 ++ V1)) (p2 : W2.Perm (U2 ++ V2)) (s1 : Srt K W1) (s2 : Srt K W2) :
    Srt K (W1 ++ W2) ∧ (W1 ++ W2).Perm ((U1 ++ U2) ++ (V1 ++ V2)) := by
  refine ⟨srt_join s1 s2 fun x hx y hy => ?_, (p1.append p2).trans ?_⟩
  · rcases List.mem_append.1 (p1.mem_iff.1 hx) with a | a <;> rcases List.mem_append.1 (p2.mem_iff.1 hy) with b | b
    · exact h.u x a y b
    · exact h.uv x a y b
    · exact h.vu x a y b
    · exact h.v x a y b
  · rw [List.append_assoc, List.append_assoc]
    refine List.Perm.append_left U1 ?_
    rw [← List.append_assoc, ← List.append_assoc]
    exact List.Perm.append_right V2 List.perm_append_comm
/-- one element is moved up through V -/
def insU (A : List Int) (x : Int) (V B : List Int) (t : Nat) : List Int := A ++ (V.take t ++ (x :: (V.drop t ++ B)))
theorem insU_zero (A : List Int) (x : Int) (V B : List Int) : insU A x V B 0 = A ++ ([x] ++ (V ++ B)) := by simp [insU]
theorem insU_step (A : List Int) (x : Int) (V B : List Int) {t : Nat} (ht : t < V.length) : swp (insU A x V B t) (A.length + t) (A.length + t + 1) = insU A x V B (t + 1) := by
  have e1 : V.drop t = V[t] :: V.drop (t + 1) := List.drop_eq_getElem_cons ht
  have e2 : V.take (t + 1) = V.take t ++ [V[t]] := by simp
  have g := swp_app (A ++ V.take t) [] (V.drop (t + 1) ++ B) x V[t]
  have l1 : (A ++ V.take t).length = A.length + t := by rw [List.length_append, List.length_take]; omega
  rw [l1] at g
  unfold insU
  rw [e1, e2]
  simp only [List.append_assoc, List.cons_append, List.nil_append, List.length_nil, Nat.add_zero] at g ⊢
  exact g
/-- one element is moved down through U; t: how many of U lie before it -/
theorem insU_down (A : List Int) (x : Int) (V B : List Int) {t : Nat} (ht : t < V.length) : swp (insU A x V B (t + 1)) (A.length + t + 1) (A.length + t) = insU A x V B t := by
  have e1 : V.drop t = V[t] :: V.drop (t + 1) := List.drop_eq_getElem_cons ht
  have e2 : V.take (t + 1) = V.take t ++ [V[t]] := by simp
  have g := swp_app (A ++ V.take t) [] (V.drop (t + 1) ++ B) V[t] x
  have l1 : (A ++ V.take t).length = A.length + t := by rw [List.length_append, List.length_take]; omega
  rw [l1] at g
  rw [swp_comm _ _ _ (by omega)]
  unfold insU
  rw [e1, e2]
  simp only [List.append_assoc, List.cons_append, List.nil_append, List.length_nil, Nat.add_zero] at g ⊢
  exact g
theorem insU_end (A : List Int) (x : Int) (V B : List Int) : insU A x V B V.length = A ++ (V ++ ([x] ++ B)) := by simp [insU]
theorem ins_perm (x : Int) (V : List Int) (t : Nat) : (V.take t ++ x :: V.drop t).Perm ([x] ++ V) := by
  refine List.perm_middle.trans ?_
  rw [List.take_append_drop]
  exact List.Perm.refl _
theorem ins_srt {K : Int → Int} {x : Int} {V : List Int} (h : Srt K V) {t : Nat} (ht : t ≤ V.length) (h1 : t = 0 ∨ ∃ a : t - 1 < V.length, K V[t - 1] ≤ K x) (h2 : t = V.length ∨ ∃ a : t < V.length, K x ≤ K V[t]) : Srt K (V.take t ++ x :: V.drop t) := by
  have c := srt_cut h t
  have h0 := h
  rw [← List.take_append_drop t V] at h0
  obtain ⟨a1, a2, -⟩ := List.pairwise_append.1 h0
  have b1 : ∀ y ∈ V.take t, K y ≤ K x := fun y hy => by
    rcases h1 with e | ⟨a, e⟩
    · subst e; simp at hy
    · rcases Nat.eq_zero_or_pos t with h0 | h0
      · subst h0; simp at hy
      · have := srt_last h a y (by rwa [show t - 1 + 1 = t by omega])
        omega
  have b2 : ∀ y ∈ V.drop t, K x ≤ K y := fun y hy => by
    rcases h2 with e | ⟨a, e⟩
    · subst e; simp at hy
    · have := srt_first h a y hy
      omega
  refine List.pairwise_append.2 ⟨a1, List.pairwise_cons.2 ⟨b2, a2⟩, fun y hy z hz => ?_⟩
  rcases List.mem_cons.1 hz with e | e
  · rw [e]; exact b1 y hy
  · exact c y hy z e
/-- the rotation's rounds: the parts are of unlike lengths -/
theorem Rot.big {A U V B : List Int} {m i j : Nat} {xs : List Int} (h : Rot A U V B m i j xs) (hij : j < i) :
    ∃ A' P' M' Q' B', xs = A' ++ (P' ++ (M' ++ (Q' ++ B'))) ∧ A'.length + i = m ∧ P'.length = j ∧ Q'.length = j ∧ A'.length + P'.length + M'.length = m ∧ Rot A U V B m (i - j) j (A' ++ (Q' ++ (M' ++ (P' ++ B')))) := by
  obtain ⟨X1, P, Q, X2, rfl, hp, hq, hm, ht⟩ := h.ex
  have hc := List.take_append_drop j P
  obtain ⟨P1, hP1⟩ : ∃ z, z = P.take j := ⟨_, rfl⟩
  obtain ⟨P2, hP2⟩ : ∃ z, z = P.drop j := ⟨_, rfl⟩
  have l1 : P1.length = j := by rw [hP1, List.length_take]; omega
  have l2 : P2.length = i - j := by rw [hP2, List.length_drop]; omega
  rw [← hP1, ← hP2] at hc
  clear hP1 hP2
  subst hc
  refine ⟨A ++ X1, P1, P2, Q, X2 ++ B, by simp only [List.append_assoc], by rw [List.length_append]; omega, l1, hq, by rw [List.length_append]; omega, ⟨X1 ++ Q, P2, P1, X2, by simp only [List.append_assoc], l2, l1, by rw [List.length_append]; omega, ?_⟩⟩
  rw [← ht]
  simp only [List.append_assoc]
theorem Rot.less {A U V B : List Int} {m i j : Nat} {xs : List Int} (h : Rot A U V B m i j xs) (hij : i < j) :
    ∃ A' P' M' Q' B', xs = A' ++ (P' ++ (M' ++ (Q' ++ B'))) ∧ A'.length + i = m ∧ P'.length = i ∧ Q'.length = i ∧ A'.length + P'.length + M'.length = m + j - i ∧ Rot A U V B m i (j - i) (A' ++ (Q' ++ (M' ++ (P' ++ B')))) := by
  obtain ⟨X1, P, Q, X2, rfl, hp, hq, hm, ht⟩ := h.ex
  have hc := List.take_append_drop (j - i) Q
  obtain ⟨Q1, hQ1⟩ : ∃ z, z = Q.take (j - i) := ⟨_, rfl⟩
  obtain ⟨Q2, hQ2⟩ : ∃ z, z = Q.drop (j - i) := ⟨_, rfl⟩
  have l1 : Q1.length = j - i := by rw [hQ1, List.length_take]; omega
  have l2 : Q2.length = i := by rw [hQ2, List.length_drop]; omega
  rw [← hQ1, ← hQ2] at hc
  clear hQ1 hQ2
  subst hc
  refine ⟨A ++ X1, P, Q1, Q2, X2 ++ B, by simp only [List.append_assoc], by rw [List.length_append]; omega, hp, l2, by rw [List.length_append]; omega, ⟨X1, Q2, Q1, P ++ X2, by simp only [List.append_assoc], l2, l1, by omega, ?_⟩⟩
  rw [← ht]
  simp only [List.append_assoc]
theorem Rot.same {A U V B : List Int} {m i : Nat} {xs : List Int} (h : Rot A U V B m i i xs) :
    ∃ A' P' Q' B', xs = A' ++ (P' ++ ([] ++ (Q' ++ B'))) ∧ A'.length + i = m ∧ P'.length = i ∧ Q'.length = i ∧ A' ++ (Q' ++ ([] ++ (P' ++ B'))) = A ++ (V ++ (U ++ B)) := by
  obtain ⟨X1, P, Q, X2, rfl, hp, hq, hm, ht⟩ := h.ex
  refine ⟨A ++ X1, P, Q, X2 ++ B, by simp only [List.append_assoc, List.nil_append], by rw [List.length_append]; omega, hp, hq, ?_⟩
  rw [← ht]
  simp only [List.append_assoc, List.nil_append]
theorem Rot.len {A U V B : List Int} {m i j : Nat} {xs : List Int} (h : Rot A U V B m i j xs) : xs.length = A.length + U.length + V.length + B.length ∧ i ≤ m ∧ m + j ≤ xs.length := by
  obtain ⟨X1, P, Q, X2, rfl, hp, hq, hm, ht⟩ := h.ex
  have := congrArg List.length ht
  simp only [List.length_append] at this ⊢
  omega
/-- the bounds of the search in the middle of symMerge -/
structure SymB (a m b mid n s0 r0 : Nat) : Prop where
  hmid : mid = (a + b) / 2
  hn : n = mid + m
  ham : a + 2 ≤ m
  hmb : m + 2 ≤ b
  lo : (mid < m ∧ s0 = n - b ∧ r0 = mid) ∨ (m ≤ mid ∧ s0 = a ∧ r0 = m)
theorem SymB.rng {a m b mid n s0 r0 : Nat} (h : SymB a m b mid n s0 r0) : a ≤ s0 ∧ s0 ≤ r0 ∧ r0 ≤ m ∧ a < mid ∧ mid < b := by
  obtain ⟨h1, h2, h3, h4, h5⟩ := h
  rcases h5 with ⟨h6, h7, h8⟩ | ⟨h6, h7, h8⟩ <;> omega
theorem SymB.at_ {a m b mid n s0 r0 c : Nat} (h : SymB a m b mid n s0 r0) (h1 : s0 ≤ c) (h2 : c < r0) : a ≤ c ∧ c < m ∧ m ≤ n - 1 - c ∧ n - 1 - c < b ∧ c + 1 ≤ n := by
  obtain ⟨e1, e2, h3, h4, h5⟩ := h
  rcases h5 with ⟨h6, h7, h8⟩ | ⟨h6, h7, h8⟩ <;> omega
theorem SymB.end_ {a m b mid n s0 r0 s : Nat} (h : SymB a m b mid n s0 r0) (h1 : s0 ≤ s) (h2 : s ≤ r0) : a ≤ s ∧ s ≤ m ∧ m ≤ n - s ∧ n - s ≤ b ∧ s ≤ n ∧ (s - a) + (n - s - m) = mid - a ∧ mid ≤ n - s + (m - s) ∧ n - s = mid + (m - s) := by
  obtain ⟨e1, e2, h3, h4, h5⟩ := h
  rcases h5 with ⟨h6, h7, h8⟩ | ⟨h6, h7, h8⟩ <;> omega
theorem sym_par {K : Int → Int} {U V : List Int} {a m b mid n s0 r0 s : Nat} (h : SymB a m b mid n s0 r0) (hU : Srt K U) (hV : Srt K V) (hul : U.length = m - a) (hvl : V.length = b - m) (h1 : s0 ≤ s) (h2 : s ≤ r0)
    (hI : s = s0 ∨ K (U.getD (s - 1 - a) 0) ≤ K (V.getD (n - s - m) 0)) (hJ : s = r0 ∨ K (V.getD (n - 1 - s - m) 0) < K (U.getD (s - a) 0)) :
    Par K (U.take (s - a)) (U.drop (s - a)) (V.take (n - s - m)) (V.drop (n - s - m)) := by
  have he := h.end_ h1 h2
  have hd : ∀ (l : List Int) (k : Nat) (hk : k < l.length), l.getD k 0 = l[k] := fun l k hk => by rw [List.getD_eq_getElem?_getD, List.getElem?_eq_getElem hk]; rfl
  refine par_of hU hV (by omega) (by omega) ?_ ?_
  · by_cases e0 : s = a
    · exact .inl (by omega)
    · by_cases e1 : n - s = b
      · exact .inr (.inl (by omega))
      · right; right
        rcases hI with hI | hI
        · exfalso
          obtain ⟨-, -, -, -, h5⟩ := h
          rcases h5 with ⟨h6, h7, h8⟩ | ⟨h6, h7, h8⟩ <;> omega
        · refine ⟨by omega, by omega, ?_⟩
          rw [hd _ _ (by omega), hd _ _ (by omega)] at hI
          have : s - a - 1 = s - 1 - a := by omega
          simp only [this]
          exact hI
  · by_cases e0 : s = m
    · exact .inl (by omega)
    · by_cases e1 : n - s = m
      · exact .inr (.inl (by omega))
      · right; right
        rcases hJ with hJ | hJ
        · exfalso
          obtain ⟨-, -, -, -, h5⟩ := h
          rcases h5 with ⟨h6, h7, h8⟩ | ⟨h6, h7, h8⟩ <;> omega
        · refine ⟨by omega, by omega, ?_⟩
          rw [hd _ _ (by omega), hd _ _ (by omega)] at hJ
          have : n - s - m - 1 = n - 1 - s - m := by omega
          simp only [this]
          omega
end Go.Proofs.YtfkmkpamdlhbgaaGreat
namespace Go.Proofs.YtfkmkpamdlhbgaaGreat
open Go.RowKit
/-! the generator of the draws: each byte is drawn within 2 ^ 48 steps -/
/-- the state that the program keeps: modulo 2 ^ 64 -/
def nx (s b : Nat) : Nat := (s * 6364136223846793005 + b + 1442695040888963407) % 18446744073709551616
end Go.Proofs.YtfkmkpamdlhbgaaGreat
namespace Go.Proofs.YtfkmkpamdlhbgaaGreat
open Go.RowKit
/-! rows of letters: the twins of the rows of ends (written by tools/letgen.py) -/
section
variable {ops : Array Oper} {rest : List Oper} {o : Oper} {a : Act} {Q : Exit → Act → World → Prop}
end
section
variable {ops : Array Oper} {rest : List Oper} {o : Oper} {a : Act} {Q : Exit → Act → World → Prop}
end
end Go.Proofs.YtfkmkpamdlhbgaaGreat
namespace Go.Proofs.YtfkmkpamdlhbgaaGreat
open Go.RowKit
/-! rows of rows of rows of letters -/
/-- a slice of slices of ends that reads as ess -/
def EndSSS (w : World) (v : Value) (ess : List (List (List (Int × Int)))) : Prop :=
  ∃ (A : Option Addr) (c : Nat), v = .slice A ess.length c ∧ ess.length ≤ c ∧ c ≤ maxLen ∧
    (∀ k es, ess[k]? = some es → ∃ b off u, A = some ⟨b, off, none⟩ ∧ w.cell? ⟨b, off + k, none⟩ = some u ∧ EndSS w u es)
theorem EndSSS.keep {w w' : World} {v : Value} {xs : List (List (List (Int × Int)))} (h : EndSSS w v xs) (hb : Below w.heap.size w w') : EndSSS w' v xs := by
  obtain ⟨A, c, hv, hc, hm, hA⟩ := h
  refine ⟨A, c, hv, hc, hm, fun k x hk => ?_⟩
  obtain ⟨b, off, u, hA', h1, h2⟩ := hA k x hk
  exact ⟨b, off, u, hA', bc hb h1, h2.keep hb⟩
section
variable {ops : Array Oper} {rest : List Oper} {o : Oper} {a : Act} {Q : Exit → Act → World → Prop}
end
section
open Go.ChangeShapes Go.WideShapes Go.ChangeAt Go.Joins Go.Deep
variable {H : Type} {enc : TypeId × Value → H} {W : World}
end
end Go.Proofs.YtfkmkpamdlhbgaaGreat
namespace Go.Proofs.YtfkmkpamdlhbgaaGreat
open Go.RowKit
/-! states of asynchronous runs (written by tools/asygen.py) -/
structure ASt where
  rounds : List Int
  before : List Int
  now : List Int
  slots : List (List Int)
  flight : List (List (List (Int × Int)))
def AsIn (w : World) (a b c d f : Value) (x : ASt) : Prop := IntS w a x.rounds ∧ IntS w b x.before ∧ IntS w c x.now ∧ IntSS w d x.slots ∧ EndSSS w f x.flight
theorem AsIn.keep {w w' : World} {a b c d f : Value} {x : ASt} (h : AsIn w a b c d f x) (hb : Below w.heap.size w w') : AsIn w' a b c d f x := ⟨h.1.keep hb, h.2.1.keep hb, h.2.2.1.keep hb, h.2.2.2.1.keep hb, h.2.2.2.2.keep hb⟩
end Go.Proofs.YtfkmkpamdlhbgaaGreat
namespace Go.Proofs.YtfkmkpamdlhbgaaGreat
open Go.RowKit
theorem RowLaw.put {β : Type} {R : World → Nat → Value → β → List Nat → Prop} (L : RowLaw R) {w : World} {base : Nat} {v : Value} {x : β} {S : List Nat} (h : R w base v x S) {p : Addr} (hp : p.block < base) (u : Value) : R (w.setCell p u) base v x S := L.stable h fun k hk => Below.heap_setCell _ _ _ _ (by have := (L.range h k hk).1; omega)
def BoxA (w : World) (b : Nat) (vs : Array Value) : Prop := ∃ r, w.heap[b]? = some (.cells vs r)
theorem BoxA.lt {w : World} {b : Nat} {vs : Array Value} (h : BoxA w b vs) : b < w.heap.size := by
  obtain ⟨r, h⟩ := h
  exact (Array.getElem?_eq_some_iff.1 h).1
theorem BoxA.below {w w' : World} {B b : Nat} {vs : Array Value} (h : BoxA w b vs) (hb : Below B w w') (hB : b < B) : BoxA w' b vs := by
  obtain ⟨r, h⟩ := h
  exact ⟨r, by rw [hb.block b hB]; exact h⟩
theorem BoxA.set {w : World} {b : Nat} {vs : Array Value} {u : Value} {p : Addr} (h : BoxA w b vs) (ha : p.block ≠ b) : BoxA (w.setCell p u) b vs := by
  obtain ⟨r, h⟩ := h
  exact ⟨r, by rw [Below.heap_setCell _ _ _ _ (fun e => ha e.symm)]; exact h⟩
theorem BoxA.cell {w : World} {b : Nat} {vs : Array Value} (h : BoxA w b vs) (i : Nat) (u : Value) (hi : vs[i]? = some u) : w.cell? ⟨b, i, none⟩ = some u ∧ w.frozen? ⟨b, i, none⟩ = false := by
  obtain ⟨r, h⟩ := h
  exact ⟨by simp [World.cell?, h, hi], by simp [World.frozen?, h]⟩
theorem BoxA.alloc {w : World} {b : Nat} {vs : Array Value} (h : BoxA w b vs) (o : Obj) : BoxA (w.alloc o) b vs := h.below (below_alloc w o) h.lt
theorem BoxA.new (w : World) (vs : Array Value) (t : TypeId) : BoxA (w.alloc (.cells vs t)) w.heap.size vs := ⟨t, by show (w.heap.push _)[w.heap.size]? = _; rw [Array.getElem?_push_size]⟩
end Go.Proofs.YtfkmkpamdlhbgaaGreat
namespace Go.Proofs.YtfkmkpamdlhbgaaGreat
open Go Go.RowKit
/-! the cursor of the draws: one block of memory that all its methods write -/
/-- below B all but block cb is as it was -/
structure CB (cb B : Nat) (w w' : World) : Prop where
  os : w'.os = w.os
  tape : w'.tape = w.tape
  output : w'.output = w.output
  size : w.heap.size ≤ w'.heap.size
  block : ∀ k, k < B → k ≠ cb → w'.heap[k]? = w.heap[k]?
theorem CB.refl (cb B : Nat) (w : World) : CB cb B w w := ⟨rfl, rfl, rfl, Nat.le_refl _, fun _ _ _ => rfl⟩
theorem CB.trans {cb B : Nat} {a b c : World} (h : CB cb B a b) (k : CB cb B b c) : CB cb B a c :=
  ⟨k.os.trans h.os, k.tape.trans h.tape, k.output.trans h.output, Nat.le_trans h.size k.size, fun i hi hn => (k.block i hi hn).trans (h.block i hi hn)⟩
theorem CB.mono {cb B B' : Nat} {w w' : World} (h : CB cb B w w') (hB : B' ≤ B) : CB cb B' w w' := ⟨h.os, h.tape, h.output, h.size, fun k hk hn => h.block k (by omega) hn⟩
theorem CB.of {cb B : Nat} {w w' : World} (h : Below B w w') : CB cb B w w' := ⟨h.os, h.tape, h.output, h.size, fun k hk _ => h.block k hk⟩
theorem CB.below {cb B : Nat} {w w' : World} (h : CB cb B w w') (hB : B ≤ cb) : Below B w w' := ⟨h.os, h.tape, h.output, h.size, fun k hk => h.block k hk (by omega)⟩
theorem CB.setCell {cb B : Nat} {a w : World} (h : CB cb B a w) {p : Addr} (hp : B ≤ p.block ∨ p.block = cb) (u : Value) : CB cb B a (w.setCell p u) :=
  h.trans ⟨rfl, rfl, rfl, by simp [World.setCell], fun k hk hn => Below.heap_setCell _ _ _ _ (by omega)⟩
theorem CB.cell {cb B : Nat} {w w' : World} (h : CB cb B w w') {p : Addr} (hp : p.block < B) (hn : p.block ≠ cb) : w'.cell? p = w.cell? p := World.cell?_of_block (w := w) (h.block p.block hp hn)
theorem cell_lt {w : World} {p : Addr} {v : Value} (h : w.cell? p = some v) : p.block < w.heap.size := by
  rcases Nat.lt_or_ge p.block w.heap.size with hl | hl
  · exact hl
  · exfalso
    have e : w.heap[p.block]? = none := Array.getElem?_eq_none hl
    simp [World.cell?, e] at h
/-- all that lay in w0, but the cursor, lies -/
def Seen (cb : Nat) (w0 W : World) : Prop := CB cb w0.heap.size w0 W
theorem Seen.refl (cb : Nat) (w : World) : Seen cb w w := CB.refl _ _ _
theorem Seen.trans {cb : Nat} {w0 W W' : World} (h : Seen cb w0 W) (h' : CB cb W.heap.size W W') : Seen cb w0 W' := CB.trans h (h'.mono h.size)
theorem Seen.after {cb : Nat} {w0 W W' : World} (h : Seen cb w0 W) (h' : Since W W') : Seen cb w0 W' := h.trans (CB.of h')
/-- the bytes of the code -/
def CodeIn (w : World) (cb : Nat) (A : Option Addr) (L : Nat) : Prop := ∀ k, k < L → ∃ b off v, A = some ⟨b, off, none⟩ ∧ b < cb ∧ w.cell? ⟨b, off + k, none⟩ = some (.int .u8 v) ∧ 0 ≤ v ∧ v < 256
theorem CodeIn.keep {w w' : World} {cb : Nat} {A : Option Addr} {L : Nat} (h : CodeIn w cb A L) (hb : ∀ k, k < cb → w'.heap[k]? = w.heap[k]?) : CodeIn w' cb A L := fun k hk => by
  obtain ⟨b, off, v, hA, hlt, hc, h1, h2⟩ := h k hk
  exact ⟨b, off, v, hA, hlt, by rw [World.cell?_of_block (w := w) (hb b hlt)]; exact hc, h1, h2⟩
structure Cur (w : World) (cb : Nat) (A : Option Addr) (L c p s : Nat) : Prop where
  cells : ∃ r, w.heap[cb]? = some (.cells #[.slice A L c, .int .i64 p, .int .u64 s] r)
  code : CodeIn w cb A L
  len : L ≤ 1048576
  cap : L ≤ c
  seed : s < 18446744073709551616
theorem Cur.keep {w w' : World} {cb : Nat} {A : Option Addr} {L c p s : Nat} (h : Cur w cb A L c p s) (hb : ∀ k, k < cb + 1 → w'.heap[k]? = w.heap[k]?) : Cur w' cb A L c p s := by
  obtain ⟨⟨r, h1⟩, h2, h3, h4, h5⟩ := h
  exact ⟨⟨r, (hb cb (by omega)).trans h1⟩, h2.keep (fun k hk => hb k (by omega)), h3, h4, h5⟩
theorem Cur.lt {w : World} {cb : Nat} {A : Option Addr} {L c p s : Nat} (h : Cur w cb A L c p s) : cb < w.heap.size := by
  obtain ⟨⟨r, h1⟩, _⟩ := h
  exact (Array.getElem?_eq_some_iff.1 h1).1
theorem Cur.since {w w' : World} {cb : Nat} {A : Option Addr} {L c p s : Nat} (h : Cur w cb A L c p s) (hs : Since w w') : Cur w' cb A L c p s := h.keep fun k hk => hs.block k (by have := h.lt; omega)
theorem Cur.cellsOf {w : World} {cb : Nat} {A : Option Addr} {L c p s : Nat} (h : Cur w cb A L c p s) : w.cell? ⟨cb, 0, none⟩ = some (.slice A L c) ∧ w.cell? ⟨cb, 1, none⟩ = some (.int .i64 p) ∧ w.cell? ⟨cb, 2, none⟩ = some (.int .u64 s) := by
  obtain ⟨⟨r, h1⟩, _⟩ := h
  have hb : BoxA w cb #[.slice A L c, .int .i64 p, .int .u64 s] := ⟨r, h1⟩
  exact ⟨(hb.cell 0 _ rfl).1, (hb.cell 1 _ rfl).1, (hb.cell 2 _ rfl).1⟩
end Go.Proofs.YtfkmkpamdlhbgaaGreat
namespace Go.Proofs.YtfkmkpamdlhbgaaGreat
open Go Go.RowKit
/-! the next byte, a number, one of n -/
end Go.Proofs.YtfkmkpamdlhbgaaGreat
namespace Go.Proofs.YtfkmkpamdlhbgaaGreat
open Go Go.RowKit
/-! the cursor with a bound of its place; one, among, perm -/
def CurP (w : World) (cb : Nat) (A : Option Addr) (L c P : Nat) : Prop := ∃ p s, Cur w cb A L c p s ∧ p ≤ P
theorem CurP.lt {w : World} {cb : Nat} {A : Option Addr} {L c P : Nat} (h : CurP w cb A L c P) : cb < w.heap.size := by obtain ⟨p, s, h, _⟩ := h; exact h.lt
theorem CurP.since {w w' : World} {cb : Nat} {A : Option Addr} {L c P : Nat} (h : CurP w cb A L c P) (hs : Since w w') : CurP w' cb A L c P := by obtain ⟨p, s, h, hp⟩ := h; exact ⟨p, s, h.since hs, hp⟩
theorem CurP.keep {w w' : World} {cb : Nat} {A : Option Addr} {L c P : Nat} (h : CurP w cb A L c P) (hb : ∀ k, k < cb + 1 → w'.heap[k]? = w.heap[k]?) : CurP w' cb A L c P := by obtain ⟨p, s, h, hp⟩ := h; exact ⟨p, s, h.keep hb, hp⟩
theorem CurP.mono {w : World} {cb : Nat} {A : Option Addr} {L c P P' : Nat} (h : CurP w cb A L c P) (hP : P ≤ P') : CurP w cb A L c P' := by obtain ⟨p, s, h, hp⟩ := h; exact ⟨p, s, h, by omega⟩
theorem RowLaw.seen {β : Type} {R : World → Nat → Value → β → List Nat → Prop} (L : RowLaw R) {w w' : World} {base cb : Nat} {v : Value} {x : β} {S : List Nat} (h : R w base v x S) (hC : Seen cb w w') (hb : cb < base) : R w' base v x S :=
  L.stable h fun k hk => hC.block k (L.range h k hk).2 (by have := (L.range h k hk).1; omega)
theorem OwnNet.seen {w w' : World} {base cb : Nat} {a b d : Value} {n : Net} {S : List Nat} (h : OwnNet w base a b d n S) (hC : Seen cb w w') (hb : cb < base) : OwnNet w' base a b d n S :=
  h.stable fun k hk => hC.block k (h.range k hk).2 (by have := (h.range k hk).1; omega)
theorem Own.seen {w w' : World} {base cb : Nat} {v : Value} {xs : List Int} (h : Own w base v xs) (hC : Seen cb w w') (hb : cb < base) : Own w' base v xs := (RowLaw.seen lawI (S := v.ownBlock.toList) ⟨h, rfl⟩ hC hb).1
end Go.Proofs.YtfkmkpamdlhbgaaGreat
namespace Go.Proofs.YtfkmkpamdlhbgaaGreat
open Go.RowKit
/-! slices.SortStableFunc of integers: swapRange, rotate -/
/-- the row that is sorted; all else is as it was in w0 -/
structure Sd (w0 W : World) (base g c : Nat) (xs : List Int) : Prop where
  own : Own W base (.slice (some ⟨g, 0, none⟩) xs.length c) xs
  only : Only [g] w0 W
theorem Sd.drew {w0 W : World} {base g c : Nat} {xs : List Int} (h : Sd w0 W base g c xs) : Sd w0 W.drew base g c xs := ⟨Own.keep h.own (since_drew (since_refl W)).below, h.only.drewN 1⟩
theorem Sd.since {w0 W W' : World} {base g c : Nat} {xs : List Int} (h : Sd w0 W base g c xs) (hs : Since W W') : Sd w0 W' base g c xs := ⟨Own.keep h.own hs.below, h.only.trans (Only.of_below hs.below)⟩
theorem Sd.swap {w0 W : World} {base g c : Nat} {xs : List Int} (h : Sd w0 W base g c xs) (i j : Nat) : Sd w0 ((W.setCell ⟨g, i, none⟩ (.int .i64 (xs.getD j 0))).setCell ⟨g, j, none⟩ (.int .i64 (xs.getD i 0))) base g c (swp xs i j) := by
  refine ⟨?_, (h.only.setCell (.inl (by simp)) _).setCell (.inl (by simp)) _⟩
  have h1 := (h.own.set (k := i) (xs.getD j 0)).set (k := j) (xs.getD i 0)
  rw [swp_len]
  exact h1
theorem Sd.cell {w0 W : World} {base g c : Nat} {xs : List Int} (h : Sd w0 W base g c xs) {k : Nat} (hk : k < xs.length) : W.cell? ⟨g, k, none⟩ = some (.int .i64 (xs.getD k 0)) := by
  refine h.own.cell ?_
  rw [List.getD_eq_getElem?_getD, List.getElem?_eq_getElem hk]
  rfl
set_option maxRecDepth 100000 in
set_option maxHeartbeats 8000000 in
theorem swapRange_any (w0 w : World) (base g c : Nat) (A P M Q B : List Int) (fv : Value) (h : Sd w0 w base g c (A ++ (P ++ (M ++ (Q ++ B))))) (hpq : P.length = Q.length) (hl : (A ++ (P ++ (M ++ (Q ++ B)))).length ≤ 1000000) :
    Calls Tryz.prog 190 #[.slice (some ⟨g, 0, none⟩) (A ++ (P ++ (M ++ (Q ++ B)))).length c, .int .i64 A.length, .int .i64 ((A.length + P.length + M.length : Nat) : Int), .int .i64 P.length, fv] w fun e w' => e = .returned (.tuple #[]) ∧ Sd w0 w' base g c (A ++ (Q ++ (M ++ (P ++ B)))) := by
  have H := Lib.hid h
  clear h
  obtain ⟨N, hN⟩ : ∃ z, z = (A ++ (P ++ (M ++ (Q ++ B)))).length := ⟨_, rfl⟩
  obtain ⟨a, ha⟩ : ∃ z, z = A.length := ⟨_, rfl⟩
  obtain ⟨b, hb⟩ : ∃ z, z = A.length + P.length + M.length := ⟨_, rfl⟩
  obtain ⟨n, hn⟩ : ∃ z, z = P.length := ⟨_, rfl⟩
  have hNl : N = a + n + M.length + n + B.length := by rw [hN, ha, hn]; simp only [List.length_append]; omega
  have hlen : ∀ k, (swR A P M Q B k).length = N := fun k => by
    rw [hN]; unfold swR; simp only [List.length_append, List.length_take, List.length_drop]; omega
  rw [← hN] at hl
  rw [← hN, ← hb, ← ha, ← hn]
  have HN := Lib.hid hN
  have Ha := Lib.hid ha
  have Hb := Lib.hid hb
  have Hn := Lib.hid hn
  have Hlen := Lib.hid hlen
  have Hpq := Lib.hid hpq
  clear hN ha hb hn hlen hpq
  go_enter Tryz.func190, Tryz.ntmps190
  go_wp2
  go_loopw [10] (fun i wr => ∃ k : Nat, k ≤ n ∧ i = .int .i64 k ∧ Sd w0 wr base g c (swR A P M Q B k)) (fun i _ => n - (intOf i).toNat)
  case atStart => exact ⟨0, Nat.zero_le _, rfl, by rw [swR_zero]; exact H.out⟩
  case round =>
    obtain ⟨k, hk, rfl, hs⟩ := hrel
    by_cases hlt : k < n
    · have m1 : IntKind.i64.wrap ((a : Int) + (k : Int)) = ((a + k : Nat) : Int) := by rw [wr64 _ (by omega) (by omega)]; omega
      have m2 : IntKind.i64.wrap ((b : Int) + (k : Int)) = ((b + k : Nat) : Int) := by rw [wr64 _ (by have := Hb.out; omega) (by have := Hb.out; have := Ha.out; have := Hn.out; omega)]; omega
      have m3 : IntKind.i64.wrap ((k : Int) + 1) = (k : Int) + 1 := wr64 _ (by omega) (by omega)
      have hbk : b + k < N := by have := Hb.out; have := Ha.out; have := Hn.out; omega
      have hak : a + k < N := by omega
      have c1 := hs.cell (k := a + k) (by rw [Hlen.out]; exact hak)
      have c2 := hs.cell (k := b + k) (by rw [Hlen.out]; exact hbk)
      have f1 := hs.own.free (a + k)
      have f2 := hs.own.free (b + k)
      have hsw := hs.swap (a + k) (b + k)
      rw [show swp (swR A P M Q B k) (a + k) (b + k) = swR A P M Q B (k + 1) by rw [Ha.out, Hb.out]; exact swR_step A P M Q B Hpq.out (by have := Hn.out; omega)] at hsw
      obtain ⟨x, hx⟩ : ∃ z, z = (swR A P M Q B k).getD (a + k) 0 := ⟨_, rfl⟩
      obtain ⟨y, hy⟩ : ∃ z, z = (swR A P M Q B k).getD (b + k) 0 := ⟨_, rfl⟩
      rw [← hx] at c1 hsw
      rw [← hy] at c2 hsw
      have Hsw := Lib.hid hsw
      obtain ⟨i, hi⟩ : ∃ z, z = a + k := ⟨_, rfl⟩
      obtain ⟨j, hj⟩ : ∃ z, z = b + k := ⟨_, rfl⟩
      have hij : i ≠ j := by have := Hb.out; have := Ha.out; have := Hn.out; omega
      rw [← hi] at m1 hak c1 f1 Hsw
      rw [← hj] at m2 hbk c2 f2 Hsw
      clear hs hsw hx hy hi hj
      go_upto_region 3 with (fail)
      go_region
      obtain ⟨w2, hw2⟩ : ∃ z, z = (wr.setCell ⟨g, i, none⟩ (.int .i64 y)).setCell ⟨g, j, none⟩ (.int .i64 x) := ⟨_, rfl⟩
      rw [← hw2] at Hsw ⊢
      clear hw2 c1 c2 f1 f2
      go_wp2
      go_roundw
      case rel => exact ⟨k + 1, by omega, by first | rfl | go_num, Hsw.out.drew⟩
      case measure => simp [intOf]; omega
    · obtain rfl : k = n := by omega
      have Hs := Lib.hid hs
      clear hs
      go_wp2
      go_end0
      refine ⟨rfl, ?_⟩
      have h9 := Hs.out
      rw [Hn.out, swR_end _ _ _ _ _ Hpq.out] at h9
      exact h9
end Go.Proofs.YtfkmkpamdlhbgaaGreat
namespace Go.Proofs.YtfkmkpamdlhbgaaGreat
open Go.RowKit
/-! rotate -/
theorem swapRange_n (w0 w : World) (base g c N a b n : Nat) (A P M Q B xs : List Int) (fv : Value) (hx : xs = A ++ (P ++ (M ++ (Q ++ B)))) (h : Sd w0 w base g c xs) (hpq : P.length = Q.length) (hN : xs.length = N) (ha : A.length = a) (hb : A.length + P.length + M.length = b) (hn : P.length = n) (hl : N ≤ 1000000) :
    Calls Tryz.prog 190 #[.slice (some ⟨g, 0, none⟩) N c, .int .i64 a, .int .i64 b, .int .i64 n, fv] w fun e w' => e = .returned (.tuple #[]) ∧ Sd w0 w' base g c (A ++ (Q ++ (M ++ (P ++ B)))) := by
  subst hx hN ha hb hn
  exact swapRange_any w0 w base g c A P M Q B fv h hpq hl
set_option maxRecDepth 100000 in
set_option maxHeartbeats 800000 in
theorem rotate_any (w0 w : World) (base g c N a m b : Nat) (A U V B xs : List Int) (fv : Value) (hx : xs = A ++ (U ++ (V ++ B))) (h : Sd w0 w base g c xs) (hN : xs.length = N) (ha : A.length = a) (hm : a + U.length = m) (hb : m + V.length = b) (hU : 0 < U.length) (hV : 0 < V.length) (hl : N ≤ 1000000) :
    Calls Tryz.prog 188 #[.slice (some ⟨g, 0, none⟩) N c, .int .i64 a, .int .i64 m, .int .i64 b, fv] w fun e w' => e = .returned (.tuple #[]) ∧ Sd w0 w' base g c (A ++ (V ++ (U ++ B))) := by
  have hbN : b ≤ N := by rw [← hN, hx]; simp only [List.length_append]; omega
  have hR : Rot A U V B m U.length V.length xs := by rw [hx, ← hm, ← ha]; exact Rot.start A U V B
  have HR := Lib.hid hR
  have H := Lib.hid h
  have HN := Lib.hid hN
  have hl0 : A.length + U.length + V.length + B.length = N := by rw [← hN, hx]; simp only [List.length_append]; omega
  have Hl0 := Lib.hid hl0
  clear h hx hR hN hl0
  obtain ⟨i0, hi0⟩ : ∃ z, z = U.length := ⟨_, rfl⟩
  obtain ⟨j0, hj0⟩ : ∃ z, z = V.length := ⟨_, rfl⟩
  rw [← hi0] at hm HR hU
  rw [← hj0] at hb HR hV
  have Hi0 := Lib.hid hi0
  have Hj0 := Lib.hid hj0
  clear hi0 hj0 ha
  have m1 : IntKind.i64.wrap ((m : Int) - (a : Int)) = (i0 : Int) := by rw [wr64 _ (by omega) (by omega)]; omega
  have m2 : IntKind.i64.wrap ((b : Int) - (m : Int)) = (j0 : Int) := by rw [wr64 _ (by omega) (by omega)]; omega
  have Hm := Lib.hid hm
  have Hb := Lib.hid hb
  clear hm hb
  go_enter Tryz.func188, Tryz.ntmps188
  go_wp2
  clear m1 m2
  go_loopw [10, 11] (fun ti tj wr => ∃ (i j : Nat) (ys : List Int), ti = .int .i64 i ∧ tj = .int .i64 j ∧ 0 < i ∧ 0 < j ∧ ys.length = N ∧ Rot A U V B m i j ys ∧ Sd w0 wr base g c ys) (fun ti tj _ => (intOf ti).toNat + (intOf tj).toNat)
  case atStart => exact ⟨i0, j0, xs, rfl, rfl, hU, hV, HN.out, HR.out, H.out⟩
  case round =>
    obtain ⟨i, j, ys, rfl, rfl, hi, hj, hyl, hr, hs⟩ := hrel
    have hrl := hr.len
    have hy2 : i ≤ m ∧ m + j ≤ N := by omega
    have Hr := Lib.hid hr
    have Hs := Lib.hid hs
    have Hyl := Lib.hid hyl
    clear hr hs hyl hrl
    have e1 : IntKind.i64.wrap ((m : Int) - (i : Int)) = ((m - i : Nat) : Int) := by rw [wr64 _ (by omega) (by omega)]; omega
    rcases Nat.lt_trichotomy i j with hlt | rfl | hlt
    · obtain ⟨A', P', M', Q', B', hx, q1, q2, q3, q4, q5⟩ := Hr.out.less hlt
      have Hq5 := Lib.hid q5
      have hlen : (A' ++ (Q' ++ (M' ++ (P' ++ B')))).length = N := by rw [← Hyl.out, hx]; simp only [List.length_append]; omega
      have Hlen := Lib.hid hlen
      have Hx := Lib.hid hx
      clear q5 hx hlen
      have t0 : ((i : Int) = (j : Int)) = False := by simp; omega
      have t0' : (i = j) = False := by simp; omega
      have t1 : ((j : Int) < (i : Int)) = False := by simp; omega
      have e2 : IntKind.i64.wrap ((m : Int) + (j : Int)) = ((m + j : Nat) : Int) := by rw [wr64 _ (by omega) (by omega)]; omega
      have e3 : IntKind.i64.wrap (((m + j : Nat) : Int) - (i : Int)) = ((m + j - i : Nat) : Int) := by rw [wr64 _ (by omega) (by omega)]; omega
      have e4 : IntKind.i64.wrap ((j : Int) - (i : Int)) = ((j - i : Nat) : Int) := by rw [wr64 _ (by omega) (by omega)]; omega
      obtain ⟨mj, hmj⟩ : ∃ z, z = m + j := ⟨_, rfl⟩
      obtain ⟨mji, hmji⟩ : ∃ z, z = m + j - i := ⟨_, rfl⟩
      obtain ⟨mi, hmi⟩ : ∃ z, z = m - i := ⟨_, rfl⟩
      obtain ⟨ji, hji⟩ : ∃ z, z = j - i := ⟨_, rfl⟩
      rw [← hmj] at e2 e3
      rw [← hmi] at e1
      rw [hmj, ← hmji, ← hmj] at e3
      rw [← hji] at e4
      have Hmj := Lib.hid hmj
      have Hmji := Lib.hid hmji
      have Hmi := Lib.hid hmi
      have Hji := Lib.hid hji
      have Hq := Lib.hid (And.intro q1 (And.intro q2 (And.intro q3 q4)))
      clear hmj hmji hmi hji q1 q2 q3 q4 t0'
      go_wp2_with fail
      refine (swapRange_n w0 wr base g c N mi mji i A' P' M' Q' B' ys fv Hx.out Hs.out (by have := Hq.out; omega) Hyl.out (by have := Hq.out; have := Hmi.out; omega) (by have := Hq.out; have := Hmji.out; omega) Hq.out.2.1 hl).mono ?_
      rintro e w2 ⟨rfl, hs2⟩
      have Hs2 := Lib.hid hs2
      clear hs2 Hs
      go_wp2
      go_roundw
      case rel => exact ⟨i, ji, _, by first | rfl | go_num, by first | rfl | go_num, hi, by have := Hji.out; omega, Hlen.out, by rw [Hji.out]; exact Hq5.out, Hs2.out⟩
      case measure => have := Hji.out; simp [intOf]; omega
    · obtain ⟨A', P', Q', B', hx, q1, q2, q3, q5⟩ := Hr.out.same
      have Hq5 := Lib.hid q5
      have Hx := Lib.hid hx
      clear q5 hx
      have t0 : ((i : Int) = (i : Int)) = True := by simp
      obtain ⟨mi, hmi⟩ : ∃ z, z = m - i := ⟨_, rfl⟩
      rw [← hmi] at e1
      have Hmi := Lib.hid hmi
      have Hq := Lib.hid (And.intro q1 (And.intro q2 q3))
      clear hmi q1 q2 q3
      go_wp2_with fail
      refine (swapRange_n w0 wr base g c N mi m i A' P' [] Q' B' ys fv Hx.out Hs.out (by have := Hq.out; omega) Hyl.out (by have := Hq.out; have := Hmi.out; omega) (by have := Hq.out; simp; omega) Hq.out.2.1 hl).mono ?_
      rintro e w2 ⟨rfl, hs2⟩
      have Hs2 := Lib.hid hs2
      clear hs2 Hs
      go_wp2
      go_end0
      refine ⟨rfl, ?_⟩
      have h9 := Hs2.out
      rw [Hq5.out] at h9
      exact h9
    · obtain ⟨A', P', M', Q', B', hx, q1, q2, q3, q4, q5⟩ := Hr.out.big hlt
      have Hq5 := Lib.hid q5
      have hlen : (A' ++ (Q' ++ (M' ++ (P' ++ B')))).length = N := by rw [← Hyl.out, hx]; simp only [List.length_append]; omega
      have Hlen := Lib.hid hlen
      have Hx := Lib.hid hx
      clear q5 hx hlen
      have t0 : ((i : Int) = (j : Int)) = False := by simp; omega
      have t0' : (i = j) = False := by simp; omega
      have t1 : ((j : Int) < (i : Int)) = True := by simp; omega
      have e4 : IntKind.i64.wrap ((i : Int) - (j : Int)) = ((i - j : Nat) : Int) := by rw [wr64 _ (by omega) (by omega)]; omega
      obtain ⟨mi, hmi⟩ : ∃ z, z = m - i := ⟨_, rfl⟩
      obtain ⟨ij, hij⟩ : ∃ z, z = i - j := ⟨_, rfl⟩
      rw [← hmi] at e1
      rw [← hij] at e4
      have Hmi := Lib.hid hmi
      have Hij := Lib.hid hij
      have Hq := Lib.hid (And.intro q1 (And.intro q2 (And.intro q3 q4)))
      clear hmi hij q1 q2 q3 q4 t0'
      go_wp2_with fail
      refine (swapRange_n w0 wr base g c N mi m j A' P' M' Q' B' ys fv Hx.out Hs.out (by have := Hq.out; omega) Hyl.out (by have := Hq.out; have := Hmi.out; omega) Hq.out.2.2.2 Hq.out.2.1 hl).mono ?_
      rintro e w2 ⟨rfl, hs2⟩
      have Hs2 := Lib.hid hs2
      clear hs2 Hs
      go_wp2
      go_roundw
      case rel => exact ⟨ij, j, _, by first | rfl | go_num, by first | rfl | go_num, by have := Hij.out; omega, hj, Hlen.out, by rw [Hij.out]; exact Hq5.out, Hs2.out⟩
      case measure => have := Hij.out; simp [intOf]; omega
end Go.Proofs.YtfkmkpamdlhbgaaGreat
