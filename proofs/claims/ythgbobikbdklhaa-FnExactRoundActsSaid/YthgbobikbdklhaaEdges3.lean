import Derived.Test.YthgbobikbdklhaaBfs1
import Derived.Test.YthgbobikbdklhaaPort
namespace Go.Proofs.Ythgbobikbdklhaa
open Go.RowKit
/-! edges: rows of four integers -/
abbrev Ed := Int × Int × Int × Int
def encD (e : Ed) : List Value := [.int .i64 e.1, .int .i64 e.2.1, .int .i64 e.2.2.1, .int .i64 e.2.2.2]
theorem encD_len (xs : List Ed) : (xs.flatMap encD).length = xs.length * 4 := by
  induction xs with
  | nil => rfl
  | cons x xs ih => simp [encD, ih]; omega
theorem encD_get : ∀ {xs : List Ed} {k : Nat} {x : Ed}, xs[k]? = some x → (xs.flatMap encD)[k * 4]? = some (.int .i64 x.1) ∧ (xs.flatMap encD)[k * 4 + 1]? = some (.int .i64 x.2.1) ∧ (xs.flatMap encD)[k * 4 + 2]? = some (.int .i64 x.2.2.1) ∧ (xs.flatMap encD)[k * 4 + 3]? = some (.int .i64 x.2.2.2)
  | [], _, _, h => by simp at h
  | y :: xs, 0, x, h => by simp at h; subst h; simp [encD]
  | y :: xs, k + 1, x, h => by
    obtain ⟨h1, h2, h3, h4⟩ := encD_get (xs := xs) (k := k) (x := x) (by simpa using h)
    have e : ∀ j, ((y :: xs).flatMap encD)[(k + 1) * 4 + j]? = (xs.flatMap encD)[k * 4 + j]? := fun j => by
      rw [List.flatMap_cons, List.getElem?_append_right (by simp [encD]; omega)]
      congr 1
      simp [encD]; omega
    exact ⟨(e 0).trans h1, (e 1).trans h2, (e 2).trans h3, (e 3).trans h4⟩
/-- a row of edges, for reading -/
def EdgeS (W : World) (v : Value) (xs : List Ed) : Prop := ∃ A c, v = .slice A xs.length c ∧ c ≤ maxLen ∧ xs.length ≤ c ∧ ∀ k x, xs[k]? = some x → ∃ b, A = some ⟨b, 0, none⟩ ∧ W.cell? ⟨b, k * 4, none⟩ = some (.int .i64 x.1) ∧ W.cell? ⟨b, k * 4 + 1, none⟩ = some (.int .i64 x.2.1) ∧ W.cell? ⟨b, k * 4 + 2, none⟩ = some (.int .i64 x.2.2.1) ∧ W.cell? ⟨b, k * 4 + 3, none⟩ = some (.int .i64 x.2.2.2)
def PredD (w0 : World) (fid : FuncId) (caps : Array Value) (p : Ed → Bool) (xs : List Ed) : Prop :=
  ∀ x ∈ xs, ∀ w, Since w0 w → Calls Try.prog fid (#[.agg #[.int .i64 x.1, .int .i64 x.2.1, .int .i64 x.2.2.1, .int .i64 x.2.2.2]] ++ caps) w fun e w' => e = .returned (.bool (p x)) ∧ Below w.heap.size w w'
def didx (p : Ed → Bool) (xs : List Ed) : Int := match xs.findIdx? p with | some i => (i : Int) | none => -1
theorem didx_none {p : Ed → Bool} {xs : List Ed} (h : xs.any p = false) : didx p xs = -1 := by
  have : xs.findIdx? p = none := by
    rw [List.findIdx?_eq_none_iff]
    intro x hx
    rw [List.any_eq_false] at h
    simpa using h x hx
  simp [didx, this]
theorem didx_found {p : Ed → Bool} {xs : List Ed} {k : Nat} {x : Ed} (hx : xs[k]? = some x) (hp : p x = true) (h : (xs.take k).any p = false) : didx p xs = k := by
  have : xs.findIdx? p = some k := by
    obtain ⟨hk, rfl⟩ := List.getElem?_eq_some_iff.1 hx
    rw [List.findIdx?_eq_some_iff_getElem]
    refine ⟨hk, hp, fun j hj => ?_⟩
    rw [List.any_eq_false] at h
    have := h xs[j] (List.mem_take_iff_getElem.2 ⟨j, by omega, rfl⟩)
    simpa using this
  simp [didx, this]
theorem didx_any (p : Ed → Bool) (xs : List Ed) : decide (0 ≤ didx p xs) = xs.any p := by
  unfold didx
  cases h : xs.findIdx? p with
  | none =>
    rw [List.findIdx?_eq_none_iff] at h
    have : xs.any p = false := by rw [List.any_eq_false]; intro x hx; simp [h x hx]
    rw [this]; rfl
  | some i =>
    rw [List.findIdx?_eq_some_iff_getElem] at h
    obtain ⟨hi, hp, -⟩ := h
    have : xs.any p = true := List.any_eq_true.2 ⟨_, List.getElem_mem hi, hp⟩
    rw [this]; simp
theorem any_snocD {p : Ed → Bool} {xs : List Ed} {k : Nat} {x : Ed} (hx : xs[k]? = some x) (h : (xs.take k).any p = false) (hp : p x = false) : (xs.take (k + 1)).any p = false := by
  rw [take_snoc hx, List.any_append, h]
  simp [hp]
end Go.Proofs.Ythgbobikbdklhaa
namespace Go.Proofs.Ythgbobikbdklhaa
open Go.RowKit
def keepE (v i : Nat) (e : Int × Int) : Bool := decide ((v : Int) < e.1) || (((v : Int) == e.1) && decide ((i : Int) ≤ e.2))
def eone (v i : Nat) (e : Int × Int) : List Ed := if keepE v i e then [((v : Int), (i : Int), e.1, e.2)] else []
def erow (v : Nat) (es : List (Int × Int)) (i : Nat) : List Ed := (List.range i).flatMap fun j => eone v j (es.getD j (0, 0))
def rowOf (n : Net) (u : Nat) : List (Int × Int) := n.ends.getD u []
def edgesTo (n : Net) (v : Nat) : List Ed := (List.range v).flatMap fun u => erow u (rowOf n u) (rowOf n u).length
def edgesB (n : Net) : List Ed := edgesTo n n.ends.length
theorem erow_succ (v : Nat) (es : List (Int × Int)) (i : Nat) : erow v es (i + 1) = erow v es i ++ eone v i (es.getD i (0, 0)) := by
  unfold erow
  rw [List.range_succ, List.flatMap_append]
  simp
theorem edgesTo_succ (n : Net) (v : Nat) : edgesTo n (v + 1) = edgesTo n v ++ erow v (rowOf n v) (rowOf n v).length := by
  unfold edgesTo
  rw [List.range_succ, List.flatMap_append]
  simp
theorem erow_len (v : Nat) (es : List (Int × Int)) (i : Nat) : (erow v es i).length ≤ i := by
  induction i with
  | zero => simp [erow]
  | succ i ih =>
    rw [erow_succ, List.length_append]
    have : (eone v i (es.getD i (0, 0))).length ≤ 1 := by unfold eone; split <;> simp
    omega
theorem edgesTo_len {n : Net} (hn : netOk n = true) (v : Nat) : (edgesTo n v).length ≤ 6 * v := by
  induction v with
  | zero => simp [edgesTo]
  | succ v ih =>
    rw [edgesTo_succ, List.length_append]
    have h1 := erow_len v (rowOf n v) (rowOf n v).length
    have h2 : (rowOf n v).length ≤ 6 := by
      unfold rowOf
      rw [List.getD_eq_getElem?_getD]
      cases h : n.ends[v]? with
      | none => simp
      | some es => exact (netOk_row hn h).1
    omega
theorem mem_edges {n : Net} {e : Ed} : e ∈ edgesB n ↔ ∃ v i, v < n.ends.length ∧ i < (rowOf n v).length ∧ keepE v i ((rowOf n v).getD i (0, 0)) = true ∧ e = ((v : Int), (i : Int), ((rowOf n v).getD i (0, 0)).1, ((rowOf n v).getD i (0, 0)).2) := by
  unfold edgesB edgesTo erow
  simp only [List.mem_flatMap, List.mem_range]
  constructor
  · rintro ⟨v, hv, i, hi, he⟩
    unfold eone at he
    split at he
    · rename_i hk
      exact ⟨v, i, hv, hi, hk, by simpa using he⟩
    · simp at he
  · rintro ⟨v, i, hv, hi, hk, rfl⟩
    exact ⟨v, hv, i, hi, by unfold eone; rw [if_pos hk]; simp⟩
theorem getD_mem' {xs : List (Int × Int)} {i : Nat} (h : i < xs.length) : xs.getD i (0, 0) ∈ xs := by
  have e : xs.getD i (0, 0) = xs[i] := by simp [h]
  rw [e]
  exact List.getElem_mem h
def pLoop (e : Ed) : Bool := e.1 == e.2.2.1
def plainB (n : Net) : Bool := (List.range n.ends.length).all fun v => !hasB (bsee n (v : Int)) (v : Int)
theorem loops_plain {n : Net} (hn : netOk n = true) : (edgesB n).any pLoop = !plainB n := by
  rw [Bool.eq_iff_iff]
  unfold plainB
  rw [Bool.not_eq_true', ← Bool.not_eq_true, List.all_eq_true, List.any_eq_true]
  constructor
  · rintro ⟨e, he, hp⟩ hall
    obtain ⟨v, i, hv, hi, hk, rfl⟩ := mem_edges.1 he
    have := hall v (List.mem_range.2 hv)
    unfold pLoop at hp
    simp only [beq_iff_eq] at hp
    have hm : hasB (bsee n (v : Int)) (v : Int) = true := by
      unfold hasB bsee
      rw [List.contains_iff_mem, Int.toNat_natCast]
      exact List.mem_map.2 ⟨(rowOf n v).getD i (0, 0), getD_mem' hi, hp.symm⟩
    rw [hm] at this
    cases this
  · intro hnall
    obtain ⟨v, hv⟩ := Classical.not_forall.1 hnall
    obtain ⟨hv1, hv2⟩ := Classical.not_imp.1 hv
    have hv1 := List.mem_range.1 hv1
    have hm : hasB (bsee n (v : Int)) (v : Int) = true := by simpa using hv2
    unfold hasB bsee at hm
    rw [List.contains_iff_mem, Int.toNat_natCast] at hm
    obtain ⟨e, he, hev⟩ := List.mem_map.1 hm
    obtain ⟨i, hi, hie⟩ := List.getElem_of_mem he
    have hi' : i < (rowOf n v).length := hi
    have hgd : (rowOf n v).getD i (0, 0) = e := by
      have : (rowOf n v).getD i (0, 0) = (rowOf n v)[i] := by simp [hi']
      rw [this]
      exact hie
    have hp : hasPortB n.ends (v : Int) (i : Int) = true := by
      unfold hasPortB
      rw [Bool.and_eq_true]
      refine ⟨inB_iff.2 (by omega), inB_iff.2 ?_⟩
      rw [Int.toNat_natCast]
      have : i < (n.ends.getD v []).length := hi'
      omega
    obtain ⟨hq1, hq2⟩ := netOk_end hn hp
    have hat : endAt n.ends (v : Int) (i : Int) = e := by
      unfold endAt
      rw [Int.toNat_natCast, Int.toNat_natCast]
      exact hgd
    rw [hat] at hq1 hq2
    rw [hev] at hq1 hq2
    unfold hasPortB at hq1
    rw [Bool.and_eq_true] at hq1
    have hb := inB_iff.1 hq1.2
    rw [Int.toNat_natCast] at hb
    obtain ⟨p, hpe⟩ := Int.eq_ofNat_of_zero_le hb.1
    rw [hpe] at hq2 hb
    have hpl : p < (rowOf n v).length := by
      show p < (n.ends.getD v []).length
      omega
    have hat2 : (rowOf n v).getD p (0, 0) = ((v : Int), (i : Int)) := by
      unfold endAt at hq2
      rw [Int.toNat_natCast, Int.toNat_natCast] at hq2
      exact hq2
    by_cases hle : i ≤ p
    · refine ⟨_, mem_edges.2 ⟨v, i, hv1, hi', ?_, rfl⟩, ?_⟩
      · rw [hgd]
        unfold keepE
        rw [hev, hpe]
        simp [hle]
      · show ((v : Int) == ((rowOf n v).getD i (0, 0)).1) = true
        rw [hgd, hev]
        simp
    · refine ⟨_, mem_edges.2 ⟨v, p, hv1, hpl, ?_, rfl⟩, ?_⟩
      · rw [hat2]
        unfold keepE
        simp
        omega
      · show ((v : Int) == ((rowOf n v).getD p (0, 0)).1) = true
        rw [hat2]
        simp
end Go.Proofs.Ythgbobikbdklhaa
namespace Go.Proofs.Ythgbobikbdklhaa
open Go.RowKit
end Go.Proofs.Ythgbobikbdklhaa
