import Derived.Test.YtbfoefkfcnaimaaEdges
import Derived.Test.YtbfoefkfcnaimaaPort
namespace Go.Proofs.Ytbfoefkfcnaimaa
open Go.RowKit
def keepE (v i : Nat) (e : Int × Int) : Bool := decide ((v : Int) < e.1) || (((v : Int) == e.1) && decide ((i : Int) ≤ e.2))
def eone (v i : Nat) (e : Int × Int) : List Ed := if keepE v i e then [((v : Int), (i : Int), e.1, e.2)] else []
def erow (v : Nat) (es : List (Int × Int)) (i : Nat) : List Ed := (List.range i).flatMap fun j => eone v j (es.getD j (0, 0))
def rowOf (n : Net) (u : Nat) : List (Int × Int) := n.ends.getD u []
def edgesTo (n : Net) (v : Nat) : List Ed := (List.range v).flatMap fun u => erow u (rowOf n u) (rowOf n u).length
def edgesB (n : Net) : List Ed := edgesTo n n.ends.length
theorem erow_succ (v : Nat) (es : List (Int × Int)) (i : Nat) : erow v es (i + 1) = erow v es i ++ eone v i (es.getD i (0, 0)) := by
  unfold erow
  rw [List.range_succ, List.flatMap_append]
  simp
theorem edgesTo_succ (n : Net) (v : Nat) : edgesTo n (v + 1) = edgesTo n v ++ erow v (rowOf n v) (rowOf n v).length := by
  unfold edgesTo
  rw [List.range_succ, List.flatMap_append]
  simp
theorem erow_len (v : Nat) (es : List (Int × Int)) (i : Nat) : (erow v es i).length ≤ i := by
  induction i with
  | zero => simp [erow]
  | succ i ih =>
    rw [erow_succ, List.length_append]
    have : (eone v i (es.getD i (0, 0))).length ≤ 1 := by unfold eone; split <;> simp
    omega
theorem edgesTo_len {n : Net} (hn : netOk n = true) (v : Nat) : (edgesTo n v).length ≤ 6 * v := by
  induction v with
  | zero => simp [edgesTo]
  | succ v ih =>
    rw [edgesTo_succ, List.length_append]
    have h1 := erow_len v (rowOf n v) (rowOf n v).length
    have h2 : (rowOf n v).length ≤ 6 := by
      unfold rowOf
      rw [List.getD_eq_getElem?_getD]
      cases h : n.ends[v]? with
      | none => simp
      | some es => exact (netOk_row hn h).1
    omega
theorem mem_edges {n : Net} {e : Ed} : e ∈ edgesB n ↔ ∃ v i, v < n.ends.length ∧ i < (rowOf n v).length ∧ keepE v i ((rowOf n v).getD i (0, 0)) = true ∧ e = ((v : Int), (i : Int), ((rowOf n v).getD i (0, 0)).1, ((rowOf n v).getD i (0, 0)).2) := by
  unfold edgesB edgesTo erow
  simp only [List.mem_flatMap, List.mem_range]
  constructor
  · rintro ⟨v, hv, i, hi, he⟩
    unfold eone at he
    split at he
    · rename_i hk
      exact ⟨v, i, hv, hi, hk, by simpa using he⟩
    · simp at he
  · rintro ⟨v, i, hv, hi, hk, rfl⟩
    exact ⟨v, hv, i, hi, by unfold eone; rw [if_pos hk]; simp⟩
theorem getD_mem' {xs : List (Int × Int)} {i : Nat} (h : i < xs.length) : xs.getD i (0, 0) ∈ xs := by
  have e : xs.getD i (0, 0) = xs[i] := by simp [h]
  rw [e]
  exact List.getElem_mem h
def pLoop (e : Ed) : Bool := e.1 == e.2.2.1
def plainB (n : Net) : Bool := (List.range n.ends.length).all fun v => !hasB (bsee n (v : Int)) (v : Int)
theorem loops_plain {n : Net} (hn : netOk n = true) : (edgesB n).any pLoop = !plainB n := by
  rw [Bool.eq_iff_iff]
  unfold plainB
  rw [Bool.not_eq_true', ← Bool.not_eq_true, List.all_eq_true, List.any_eq_true]
  constructor
  · rintro ⟨e, he, hp⟩ hall
    obtain ⟨v, i, hv, hi, hk, rfl⟩ := mem_edges.1 he
    have := hall v (List.mem_range.2 hv)
    unfold pLoop at hp
    simp only [beq_iff_eq] at hp
    have hm : hasB (bsee n (v : Int)) (v : Int) = true := by
      unfold hasB bsee
      rw [List.contains_iff_mem, Int.toNat_natCast]
      exact List.mem_map.2 ⟨(rowOf n v).getD i (0, 0), getD_mem' hi, hp.symm⟩
    rw [hm] at this
    cases this
  · intro hnall
    obtain ⟨v, hv⟩ := Classical.not_forall.1 hnall
    obtain ⟨hv1, hv2⟩ := Classical.not_imp.1 hv
    have hv1 := List.mem_range.1 hv1
    have hm : hasB (bsee n (v : Int)) (v : Int) = true := by simpa using hv2
    unfold hasB bsee at hm
    rw [List.contains_iff_mem, Int.toNat_natCast] at hm
    obtain ⟨e, he, hev⟩ := List.mem_map.1 hm
    obtain ⟨i, hi, hie⟩ := List.getElem_of_mem he
    have hi' : i < (rowOf n v).length := hi
    have hgd : (rowOf n v).getD i (0, 0) = e := by
      have : (rowOf n v).getD i (0, 0) = (rowOf n v)[i] := by simp [hi']
      rw [this]
      exact hie
    have hp : hasPortB n.ends (v : Int) (i : Int) = true := by
      unfold hasPortB
      rw [Bool.and_eq_true]
      refine ⟨inB_iff.2 (by omega), inB_iff.2 ?_⟩
      rw [Int.toNat_natCast]
      have : i < (n.ends.getD v []).length := hi'
      omega
    obtain ⟨hq1, hq2⟩ := netOk_end hn hp
    have hat : endAt n.ends (v : Int) (i : Int) = e := by
      unfold endAt
      rw [Int.toNat_natCast, Int.toNat_natCast]
      exact hgd
    rw [hat] at hq1 hq2
    rw [hev] at hq1 hq2
    unfold hasPortB at hq1
    rw [Bool.and_eq_true] at hq1
    have hb := inB_iff.1 hq1.2
    rw [Int.toNat_natCast] at hb
    obtain ⟨p, hpe⟩ := Int.eq_ofNat_of_zero_le hb.1
    rw [hpe] at hq2 hb
    have hpl : p < (rowOf n v).length := by
      show p < (n.ends.getD v []).length
      omega
    have hat2 : (rowOf n v).getD p (0, 0) = ((v : Int), (i : Int)) := by
      unfold endAt at hq2
      rw [Int.toNat_natCast, Int.toNat_natCast] at hq2
      exact hq2
    by_cases hle : i ≤ p
    · refine ⟨_, mem_edges.2 ⟨v, i, hv1, hi', ?_, rfl⟩, ?_⟩
      · rw [hgd]
        unfold keepE
        rw [hev, hpe]
        simp [hle]
      · show ((v : Int) == ((rowOf n v).getD i (0, 0)).1) = true
        rw [hgd, hev]
        simp
    · refine ⟨_, mem_edges.2 ⟨v, p, hv1, hpl, ?_, rfl⟩, ?_⟩
      · rw [hat2]
        unfold keepE
        simp
        omega
      · show ((v : Int) == ((rowOf n v).getD p (0, 0)).1) = true
        rw [hat2]
        simp
set_option maxRecDepth 100000 in
set_option maxHeartbeats 4000000 in
theorem ruPlain_any (ve vi vn : Value) (n : Net) (w : World) (h : NetIn w ve vi vn n) (hn : netOk n = true) :
    Calls Try.prog 140 #[.agg #[ve, vi, vn]] w fun e w' => e = .returned (.bool (plainB n)) ∧ Below w.heap.size w w' := by
  obtain ⟨w0, hw0⟩ : ∃ w0, w0 = (w).alloc (.cells #[ve, vi, vn] 31) := ⟨_, rfl⟩
  have hb0 : Below w.heap.size w w0 := by rw [hw0]; exact ((Below.refl _ _).alloc (by simp) _)
  have H := Lib.hid (h.keep hb0)
  obtain ⟨h1, h2, h3⟩ := h.keep hb0
  obtain ⟨A, c, rfl, hlc, hm, hA⟩ := h1
  obtain ⟨A2, c2, rfl, _, hm2, _⟩ := h2
  obtain ⟨A3, c3, rfl, _, hm3, _⟩ := h3
  unfold maxLen at hm hm2 hm3
  have p00 : ∀ W, Since w0 W → W.cell? ⟨w.heap.size, 0, none⟩ = some (.slice A n.ends.length c) := have_cell (by rw [hw0]; simp)
  have p01 : ∀ W, Since w0 W → W.cell? ⟨w.heap.size, 1, none⟩ = some (.slice A2 n.ids.length c2) := have_cell (by rw [hw0]; simp)
  have p02 : ∀ W, Since w0 W → W.cell? ⟨w.heap.size, 2, none⟩ = some (.slice A3 n.inputs.length c3) := have_cell (by rw [hw0]; simp)
  have Hb0 := Lib.hid hb0
  have Hw0 := Lib.hid hw0
  have HA := Lib.hid hA
  clear hA h
  clear hb0 hw0
  have Hn := Lib.hid hn
  have hs0 : Since w0 w0 := since_refl _
  clear hn
  go_enter Try.func140, Try.ntmps140
  go_upto_region 1 with (fail)
  rw [← Hw0.out]
  go_wp2
  go_loopw [7] (fun i wr => ∃ k : Nat, k ≤ n.ends.length ∧ i = .int .i64 k ∧ ((List.range n.ends.length).take k).all (fun v => !hasB (bsee n (v : Int)) (v : Int)) = true ∧ Since w0 wr) (fun i _ => n.ends.length - (intOf i).toNat)
  case atStart => exact ⟨0, Nat.zero_le _, rfl, rfl, hs0⟩
  case round =>
    obtain ⟨k, hk, rfl, hall, hs⟩ := hrel
    have Hall := Lib.hid hall
    clear hall hs0
    by_cases hlt : k < n.ends.length
    · obtain ⟨es, hes⟩ := getx n.ends k hlt
      obtain ⟨hes6, -⟩ := netOk_row Hn.out hes
      obtain ⟨see, hsee⟩ : ∃ s, s = bsee n (k : Int) := ⟨_, rfl⟩
      have Hse : Hid (es.map (·.1) = see) := by show _ = _; rw [hsee, bsee, Int.toNat_natCast, List.getD_eq_getElem?_getD, hes]; rfl
      have hcall0 := neNear_any _ _ _ n k es wr (H.out.keep hs.below) hes (by omega)
      rw [Hse.out] at hcall0
      have Hcall0 := Lib.hid hcall0
      have hkr : (List.range n.ends.length)[k]? = some k := by simp [hlt]
      have Hkr := Lib.hid hkr
      obtain ⟨y, hy⟩ : ∃ y, y = hasB see (k : Int) := ⟨_, rfl⟩
      have Hy : Hid (hasB (bsee n (k : Int)) (k : Int) = y) := by show _ = _; rw [hy, hsee]
      have Hy2 := Lib.hid hy
      clear hes hkr hcall0 hsee hy
      go_wp2_with fail
      refine Hcall0.out.mono ?_
      rintro e w1 ⟨u, rfl, ho, hb⟩
      have hcall := l1Has_any _ _ (k : Int) w1 ho.ints
      rw [← Hy2.out] at hcall
      have Hcall := Lib.hid hcall
      have Hs1 := Lib.hid (Since.trans hs hb)
      obtain ⟨Bu, du, rfl, _⟩ := id ho.ints
      clear hcall ho hb hs
      go_wp2_with fail
      refine Hcall.out.mono ?_
      rintro e w2 ⟨rfl, rfl⟩
      cases y
      · have Hp : Hid (((List.range n.ends.length).take (k + 1)).all (fun v => !hasB (bsee n (v : Int)) (v : Int)) = true) := by
          show _ = _
          rw [take_snoc Hkr.out, List.all_append, Hall.out]
          simp [Hy.out]
        go_wp2
        go_roundw
        case rel => exact ⟨k + 1, by omega, by go_num, Hp.out, Hs1.out⟩
        case measure => simp [intOf]; omega
      · have Hr : Hid (plainB n = false) := by show _ = _; exact all_stop Hkr.out (by rw [Hy.out]; rfl)
        go_wp2
        go_ret
        exact ⟨congrArg (fun b => Ending.returned (.bool b)) Hr.out.symm, Since.after Hb0.out Hs1.out⟩
    · obtain rfl : k = n.ends.length := by omega
      have Hr : Hid (plainB n = true) := by
        show _ = _
        have := Hall.out
        rwa [List.take_of_length_le (by simp)] at this
      go_wp2
      go_ret
      exact ⟨congrArg (fun b => Ending.returned (.bool b)) Hr.out.symm, Since.after Hb0.out hs⟩
end Go.Proofs.Ytbfoefkfcnaimaa
