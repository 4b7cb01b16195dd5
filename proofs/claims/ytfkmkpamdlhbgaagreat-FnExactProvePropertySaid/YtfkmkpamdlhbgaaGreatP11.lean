/- Parts of the proof: walks of functions and plain laws. -/
import Derived.Test.YtfkmkpamdlhbgaaGreatP10
import Derived.Test.YtfkmkpamdlhbgaaGreatP9
import Derived.Test.YtfkmkpamdlhbgaaGreatP8
import Derived.Test.YtfkmkpamdlhbgaaGreatP7
namespace Go.Proofs.YtfkmkpamdlhbgaaGreat
open Go.RowKit
/-! the labels of the prover: plain law -/
def distI (n : Net) (r v : Nat) : Int := (distB n r).getD v 0
/-- the port towards the root r -/
def towB (n : Net) (r v : Nat) : Int := match (n.ends.getD v []).findIdx? (fun e => decide (0 < distI n r v) && decide (distI n r e.1.toNat = distI n r v - 1)) with | some k => (k : Int) | none => -1
def spanB (n : Net) (r : Nat) : List Int := (List.range n.ends.length).map (towB n r)
def ptB (n : Net) (v : Nat) : Int := towB n (leastB n v) v
def depR (n : Net) (r v : Nat) : Int := if distI n r v < 0 then 0 else distI n r v
def nodeAt (n : Net) (v : Nat) (q : Int) : Nat := ((n.ends.getD v []).getD q.toNat (0, 0)).1.toNat
def parR (n : Net) (r v : Nat) : Option Nat := if 0 ≤ towB n r v then some (nodeAt n v (towB n r v)) else none
def depB (n : Net) (v : Nat) : Int := distI n (leastB n v) v
def parB (n : Net) (v : Nat) : Option Nat := if 0 ≤ ptB n v then some (nodeAt n v (ptB n v)) else none
theorem towB_cases (n : Net) (r v : Nat) : (towB n r v = -1 ∧ ∀ e ∈ n.ends.getD v [], ¬ (0 < distI n r v ∧ distI n r e.1.toNat = distI n r v - 1)) ∨ (∃ k : Nat, towB n r v = (k : Int) ∧ k < (n.ends.getD v []).length ∧ 0 < distI n r v ∧ distI n r (nodeAt n v k) = distI n r v - 1 ∧ ((n.ends.getD v []).getD k (0, 0)) ∈ n.ends.getD v []) := by
  unfold towB
  cases h : (n.ends.getD v []).findIdx? (fun e => decide (0 < distI n r v) && decide (distI n r e.1.toNat = distI n r v - 1)) with
  | none =>
    left
    rw [List.findIdx?_eq_none_iff] at h
    refine ⟨rfl, fun e he hc => ?_⟩
    have := h e he
    rw [decide_eq_true hc.1, decide_eq_true hc.2] at this
    cases this
  | some k =>
    right
    rw [List.findIdx?_eq_some_iff_getElem] at h
    obtain ⟨hk, h1, -⟩ := h
    rw [Bool.and_eq_true] at h1
    have e : (n.ends.getD v []).getD k (0, 0) = (n.ends.getD v [])[k] := by rw [List.getD_eq_getElem?_getD, List.getElem?_eq_getElem hk]; rfl
    refine ⟨k, rfl, hk, of_decide_eq_true h1.1, ?_, ?_⟩
    · unfold nodeAt
      rw [Int.toNat_natCast, e]
      exact of_decide_eq_true h1.2
    · rw [e]; exact List.getElem_mem hk
theorem row_mem_lt {n : Net} (hn : netOk n = true) {v : Nat} {e : Int × Int} (he : e ∈ n.ends.getD v []) : v < n.ends.length ∧ 0 ≤ e.1 ∧ e.1 < n.ends.length := by
  rcases Nat.lt_or_ge v n.ends.length with h | h
  · have h1 : n.ends[v]? = some (n.ends.getD v []) := by rw [List.getD_eq_getElem?_getD, List.getElem?_eq_getElem h]; rfl
    exact ⟨h, (netOk_row hn h1).2 e he⟩
  · rw [List.getD_eq_getElem?_getD, List.getElem?_eq_none h] at he
    simp at he
theorem see_of_mem {n : Net} {v : Nat} {e : Int × Int} (he : e ∈ n.ends.getD v []) (h0 : 0 ≤ e.1) : ((e.1.toNat : Nat) : Int) ∈ bsee n (v : Int) := by
  unfold bsee
  rw [Int.toNat_natCast, Int.toNat_of_nonneg h0]
  exact List.mem_map.2 ⟨e, he, rfl⟩
theorem distI_neg {n : Net} (hn : netOk n = true) {r v : Nat} (hr : r < n.ends.length) (hv : v < n.ends.length) : 0 ≤ distI n r v ↔ Rch n r v := dist_iff hn hr hv
theorem towB_step {n : Net} (hn : netOk n = true) {r v : Nat} (_ : r < n.ends.length) (h0 : 0 ≤ towB n r v) : v < n.ends.length ∧ nodeAt n v (towB n r v) < n.ends.length ∧ 0 < distI n r v ∧ distI n r (nodeAt n v (towB n r v)) = distI n r v - 1 ∧ Rch n v (nodeAt n v (towB n r v)) ∧ (towB n r v).toNat < (n.ends.getD v []).length := by
  rcases towB_cases n r v with ⟨h1, -⟩ | ⟨k, h1, h2, h3, h4, h5⟩
  · omega
  · rw [h1]
    obtain ⟨a, b, c⟩ := row_mem_lt hn h5
    refine ⟨a, ?_, h3, h4, ?_, by simpa using h2⟩
    · unfold nodeAt
      rw [Int.toNat_natCast]
      omega
    · refine Rch.refl.step ?_
      have := see_of_mem h5 b
      unfold nodeAt
      rw [Int.toNat_natCast]
      exact this
theorem trR {n : Net} (hn : netOk n = true) {r : Nat} (hr : r < n.ends.length) : Tr n.ends.length (depR n r) (parR n r) := by
  refine ⟨fun v p _ hp => ?_, fun v _ => by unfold depR; split <;> omega⟩
  unfold parR at hp
  by_cases h : 0 ≤ towB n r v
  · rw [if_pos h] at hp
    cases hp
    obtain ⟨h1, h2, h3, h4, -, -⟩ := towB_step hn hr h
    refine ⟨h2, ?_⟩
    unfold depR
    rw [h4, if_neg (by omega), if_neg (by omega)]
    omega
  · rw [if_neg h] at hp; cases hp
theorem trB {n : Net} (hn : netOk n = true) : Tr n.ends.length (depB n) (parB n) := by
  refine ⟨fun v p hv hp => ?_, fun v hv => ?_⟩
  · unfold parB ptB at hp
    have hr := (least_spec hn hv).2.1
    by_cases h : 0 ≤ towB n (leastB n v) v
    · rw [if_pos h] at hp
      cases hp
      obtain ⟨h1, h2, h3, h4, h5, -⟩ := towB_step hn hr h
      refine ⟨h2, ?_⟩
      unfold depB
      rw [← least_eq hn hv h5, h4]
      omega
    · rw [if_neg h] at hp; cases hp
  · exact (distI_neg hn (least_spec hn hv).2.1 hv).2 ((least_spec hn hv).1.symm hn hv)
/-- the two trees agree within the component -/
theorem anc_same {n : Net} (hn : netOk n = true) {r : Nat} (hr : r < n.ends.length) : ∀ (f w v : Nat), w < n.ends.length → (depB n w).toNat ≤ f → leastB n w = r → anc (depR n r) (parR n r) w v = anc (depB n) (parB n) w v
  | f, w, v, hw, hf, hl => by
    have hT := trB hn
    have hR := trR hn hr
    rw [anc_eq hR hw, anc_eq hT hw]
    have e : parR n r w = parB n w := by unfold parB ptB; rw [hl]; rfl
    rw [e]
    cases hp : parB n w with
    | none => rfl
    | some y =>
      obtain ⟨h1, h2⟩ := hT.some_ w y hw hp
      have h3 := hT.pos y h1
      have hy : leastB n y = r := by
        unfold parB ptB at hp
        by_cases h : 0 ≤ towB n (leastB n w) w
        · rw [if_pos h] at hp
          cases hp
          obtain ⟨-, -, -, -, h5, -⟩ := towB_step hn (least_spec hn hw).2.1 h
          rw [← least_eq hn hw h5]; exact hl
        · rw [if_neg h] at hp; cases hp
      cases f with
      | zero => omega
      | succ f =>
        simp only []
        rw [anc_same hn hr f y v h1 (by omega) hy]
theorem ancB_comp {n : Net} (hn : netOk n = true) : ∀ (f w v : Nat), w < n.ends.length → (depB n w).toNat ≤ f → anc (depB n) (parB n) w v = true → leastB n w = leastB n v
  | f, w, v, hw, hf, ha => by
    have hT := trB hn
    rw [anc_eq hT hw, Bool.or_eq_true] at ha
    rcases ha with ha | ha
    · rw [eq_of_beq ha]
    · cases hp : parB n w with
      | none => rw [hp] at ha; simp at ha
      | some y =>
        rw [hp] at ha
        obtain ⟨h1, h2⟩ := hT.some_ w y hw hp
        have h3 := hT.pos y h1
        have hy : leastB n w = leastB n y := by
          unfold parB ptB at hp
          by_cases h : 0 ≤ towB n (leastB n w) w
          · rw [if_pos h] at hp
            cases hp
            obtain ⟨-, -, -, -, h5, -⟩ := towB_step hn (least_spec hn hw).2.1 h
            exact least_eq hn hw h5
          · rw [if_neg h] at hp; cases hp
        cases f with
        | zero => omega
        | succ f => rw [hy]; exact ancB_comp hn f y v h1 (by omega) ha
theorem sub_same {n : Net} (hn : netOk n = true) {v : Nat} (hv : v < n.ends.length) : subB n.ends.length (depR n (leastB n v)) (parR n (leastB n v)) v = subB n.ends.length (depB n) (parB n) v := by
  have hr := (least_spec hn hv).2.1
  unfold subB
  refine List.countP_congr fun w hw => ?_
  have hwN := List.mem_range.1 hw
  by_cases e : leastB n w = leastB n v
  · rw [anc_same hn hr _ w v hwN (Nat.le_refl _) e]
  · have e1 : anc (depB n) (parB n) w v = false := by
      rw [Bool.eq_false_iff]
      exact fun h => e (ancB_comp hn _ w v hwN (Nat.le_refl _) h)
    have e2 : anc (depR n (leastB n v)) (parR n (leastB n v)) w v = false := by
      rw [anc_eq (trR hn hr) hwN]
      have h1 : ¬ 0 ≤ distI n (leastB n v) w := fun h => e (by
        have h2 := (distI_neg hn hr hwN).1 h
        have h3 := least_eq hn hr h2
        rw [least_root hn hv] at h3
        exact h3.symm)
      have h2 : parR n (leastB n v) w = none := by
        unfold parR
        rw [if_neg]
        intro h
        have := (towB_step hn hr h).2.2.1
        omega
      have h3 : (w == v) = false := by
        rw [beq_eq_false_iff_ne]
        intro h
        exact e (by rw [h])
      rw [h2, h3]
      rfl
    rw [e1, e2]
/-- only the root has no port -/
theorem ptB_root {n : Net} (hn : netOk n = true) {v : Nat} (hv : v < n.ends.length) : ptB n v < 0 ↔ v = leastB n v := by
  have hs := least_spec hn hv
  have hrv : Rch n (leastB n v) v := hs.1.symm hn hv
  unfold ptB
  have hd := dist_is hn hs.2.1
  constructor
  · intro h
    rcases towB_cases n (leastB n v) v with ⟨h1, h2⟩ | ⟨k, h1, -⟩
    · refine Decidable.byContradiction fun hne => ?_
      obtain ⟨y, hy1, hy2, hy3⟩ := hd.par v hrv hne
      have hyl := rch_lt hn hs.2.1 hy1
      have h4 := see_sym hn hyl hy2
      obtain ⟨j, q, h5⟩ := see_iff.1 h4
      have hy0 := hd.pos y hy1
      refine h2 _ (List.mem_of_getElem? h5) ⟨?_, ?_⟩
      · unfold distI; omega
      · show distI n (leastB n v) ((y : Int)).toNat = _
        rw [Int.toNat_natCast]
        unfold distI; omega
    · omega
  · intro h
    rcases towB_cases n (leastB n v) v with ⟨h1, -⟩ | ⟨k, h1, h2, h3, -⟩
    · omega
    · exfalso
      have h4 := hd.zero
      rw [← h] at h3 h4
      unfold distI at h3
      omega
def evLab (n : Net) (v : Nat) : Int := ((n.ids.getD (leastB n v) 0 * 100 + depB n v) * 10 + (if ptB n v < 0 then 9 else ptB n v)) * 2 + ((subB n.ends.length (depB n) (parB n) v % 2 : Nat) : Int)
def leLab (n : Net) (v : Nat) : Int := n.ids.getD (leadOf n v).toNat 0 * 100 + distI n (leadOf n v).toNat v
def ppL (n : Net) (s : Int) : List Int :=
  if s = 1 then (if bipB n = true then twoB n else [])
  else if s = 2 then (match tcAll n with | some (some l) => l | _ => [])
  else if s = 3 then (List.range n.ends.length).map (depB n)
  else if s = 4 then (List.range n.ends.length).map (leLab n)
  else (List.range n.ends.length).map (evLab n)
/-- the order of work: the children of a node come before it -/
theorem order_child {N : Nat} {dep : Nat → Int} {par : Nat → Option Nat} (h : Tr N dep par) {l : List Nat} (hp : l.Perm (List.range N)) (hs : l.Pairwise (fun a b => dep b ≤ dep a)) {k : Nat} (hk : k < l.length) :
    (∀ c, c < N → par c = some l[k] → c ∈ l.take k) ∧ (∀ c ∈ l.take k, c < N) ∧ l[k] ∉ l.take k ∧ l[k] < N := by
  have hm : ∀ c, c ∈ l ↔ c < N := fun c => by rw [hp.mem_iff, List.mem_range]
  have hnd : l.Nodup := hp.nodup_iff.2 List.nodup_range
  refine ⟨fun c hc hpar => ?_, fun c hc => (hm c).1 (List.mem_of_mem_take hc), fun hc => ?_, (hm _).1 (List.getElem_mem hk)⟩
  · obtain ⟨j, hj, hjc⟩ := List.mem_iff_getElem.1 ((hm c).2 hc)
    obtain ⟨-, hd⟩ := h.some_ c _ hc hpar
    rcases Nat.lt_or_ge j k with h1 | h1
    · rw [← hjc]
      exact List.mem_take_iff_getElem.2 ⟨j, by omega, rfl⟩
    · exfalso
      rcases Nat.lt_or_eq_of_le h1 with h2 | h2
      · have := List.pairwise_iff_getElem.1 hs k j hk hj h2
        rw [hjc] at this
        omega
      · subst h2
        rw [hjc] at hd
        omega
  · obtain ⟨j, hj, hjc⟩ := List.mem_take_iff_getElem.1 hc
    exact List.pairwise_iff_getElem.1 hnd j k (by omega) hk (by omega) hjc
end Go.Proofs.YtfkmkpamdlhbgaaGreat
namespace Go.Proofs.YtfkmkpamdlhbgaaGreat
open Go.RowKit
theorem compB_len (n : Net) : (compB n).length = n.ends.length := by simp [compB]
theorem compB_snoc (n : Net) (k : Nat) : (List.range (k + 1)).map (fun v => (leastB n v : Int)) = (List.range k).map (fun v => (leastB n v : Int)) ++ [(leastB n k : Int)] := by rw [List.range_succ, List.map_append]; rfl
set_option maxRecDepth 100000 in
set_option maxHeartbeats 8000000 in
theorem meParts_any (ve vi vn : Value) (n : Net) (w : World) (h : NetIn w ve vi vn n) (hn : netOk n = true) :
    Calls Tryz.prog 86 #[.agg #[ve, vi, vn]] w fun e w' => ∃ u, e = .returned u ∧ Own w' w.heap.size u (compB n) ∧ Below w.heap.size w w' := by
  have hnl := netOk_len hn
  have hnl1 := hnl.1
  have hnl2 := hnl.2
  have Hn := Lib.hid hn
  obtain ⟨w0, hw0⟩ : ∃ w0, w0 = (w).alloc (.cells #[ve, vi, vn] 27) := ⟨_, rfl⟩
  have hb0 : Below w.heap.size w w0 := by rw [hw0]; exact ((Below.refl _ _).alloc (by simp) _)
  have H := Lib.hid (h.keep hb0)
  obtain ⟨h1, h2, h3⟩ := h.keep hb0
  obtain ⟨A, c, rfl, hlc, hm, hA⟩ := h1
  obtain ⟨A2, c2, rfl, _, hm2, _⟩ := h2
  obtain ⟨A3, c3, rfl, _, hm3, _⟩ := h3
  unfold maxLen at hm hm2 hm3
  have p00 : ∀ W, Since w0 W → W.cell? ⟨w.heap.size, 0, none⟩ = some (.slice A n.ends.length c) := have_cell (by rw [hw0]; simp)
  have p01 : ∀ W, Since w0 W → W.cell? ⟨w.heap.size, 1, none⟩ = some (.slice A2 n.ids.length c2) := have_cell (by rw [hw0]; simp)
  have p02 : ∀ W, Since w0 W → W.cell? ⟨w.heap.size, 2, none⟩ = some (.slice A3 n.inputs.length c3) := have_cell (by rw [hw0]; simp)
  have Hb0 := Lib.hid hb0
  have Hw0 := Lib.hid hw0
  have HA := Lib.hid hA
  clear hA h
  clear hb0 hw0
  have hs0 : Since w0 w0 := since_refl _
  clear hn hnl
  unfold compB
  go_enter Tryz.func86, Tryz.ntmps86
  go_upto_region 1 with (fail)
  rw [← Hw0.out]
  go_wp2
  go_loopw [3, 8] (fun u i wr => ∃ k : Nat, k ≤ n.ends.length ∧ i = .int .i64 k ∧ Own wr w0.heap.size u ((List.range k).map fun v => (leastB n v : Int)) ∧ Since w0 wr) (fun _ i _ => n.ends.length - (intOf i).toNat)
  case atStart => exact ⟨0, Nat.zero_le _, rfl, by simpa using own_nil _ w0.heap.size, hs0⟩
  case round =>
    obtain ⟨k, hk, rfl, ho, hsr⟩ := hrel
    have Ho := Lib.hid ho
    have Hs := Lib.hid hsr
    clear ho hs0
    by_cases hlt : k < n.ends.length
    · have m3 : IntKind.i64.wrap ((k : Int) + 1) = (k : Int) + 1 := wr64 _ (by omega) (by omega)
      have Hlen : Hid (((List.range k).map fun v => (leastB n v : Int)).length + 1 ≤ 17592186044416) := by show _ ≤ _; simp; omega
      have Hn1 := Lib.hid (compB_snoc n k)
      go_wp2_with fail
      refine (meBall_any _ _ _ n k 40 wr (H.out.keep Hs.out.below) Hn.out hlt).mono ?_
      rintro e w2 ⟨u2, rfl, ho2, hb2⟩
      have hl := ball_least Hn.out hlt
      obtain ⟨gd, m, cd, rfl, hm⟩ : ∃ gd m cd, u2 = .slice (some ⟨gd, 0, none⟩) m cd ∧ 0 < m := by
        rcases ho2.cases with ⟨-, e1⟩ | ⟨gd, cd, rfl, hg1, hg2⟩
        · rw [e1] at hl; cases hl
        · refine ⟨gd, _, cd, rfl, ?_⟩
          cases hq : ballTo n k 40 n.ends.length with
          | nil => rw [hq] at hl; cases hl
          | cons a b => simp
      obtain ⟨y, hy⟩ : ∃ y, y = (leastB n k : Int) := ⟨_, rfl⟩
      rw [← hy] at hl Hn1
      have cd1 := ho2.cell hl
      have hm1 : (0 : Int) < m := by omega
      have Hs2 := Lib.hid (Hs.out.after hb2)
      have Ho2 := Lib.hid (Ho.out.since hb2)
      have Hy := Lib.hid hy
      clear ho2 hb2 hl hsr hy
      go_wp2_with (at_builtin; refine app_int_s rfl _ _ rfl rfl (Ho2.out.since (since_alloc _ (since_refl _))) w2.heap.size y rfl (by simp [go_sem]) Hlen.out (since_alloc _ Hs2.out) ?_; intro g cc w3 ho3 hs3)
      have Ho3 := Lib.hid ho3
      have Hs3 := Lib.hid hs3
      clear ho3 hs3
      go_wp2
      go_roundw
      case rel => exact ⟨k + 1, by omega, by first | rfl | go_num, by rw [Hn1.out]; have := Ho3.out; simpa using this, Hs3.out⟩
      case measure => simp [intOf]; omega
    · obtain rfl : k = n.ends.length := by omega
      clear hk hlt
      go_wp2
      go_ret
      exact ⟨_, rfl, Ho.out.mono Hb0.out.size, Since.after Hb0.out Hs.out⟩
end Go.Proofs.YtfkmkpamdlhbgaaGreat
namespace Go.Proofs.YtfkmkpamdlhbgaaGreat
open Go.RowKit
/-! the tree of the reference: meToward, meSpan -/
theorem tow_hit {n : Net} {r v k : Nat} {es : List (Int × Int)} (hes : n.ends[v]? = some es) {e : Int × Int} (he : es[k]? = some e) (hp : 0 < distI n r v ∧ distI n r e.1.toNat = distI n r v - 1) (hno : ∀ j f, j < k → es[j]? = some f → ¬ (0 < distI n r v ∧ distI n r f.1.toNat = distI n r v - 1)) : towB n r v = (k : Int) := by
  unfold towB
  rw [getD_of hes]
  have : es.findIdx? (fun e => decide (0 < distI n r v) && decide (distI n r e.1.toNat = distI n r v - 1)) = some k := by
    rw [List.findIdx?_eq_some_iff_getElem]
    obtain ⟨hk, hke⟩ := List.getElem?_eq_some_iff.1 he
    refine ⟨hk, by rw [hke, decide_eq_true hp.1, decide_eq_true hp.2]; rfl, fun j hj => ?_⟩
    have := hno j es[j] hj (List.getElem?_eq_getElem (by omega))
    intro hc
    rw [Bool.and_eq_true, decide_eq_true_eq, decide_eq_true_eq] at hc
    exact this hc
  rw [this]
theorem tow_none {n : Net} {r v : Nat} {es : List (Int × Int)} (hes : n.ends[v]? = some es) (hno : ∀ j f, j < es.length → es[j]? = some f → ¬ (0 < distI n r v ∧ distI n r f.1.toNat = distI n r v - 1)) : towB n r v = -1 := by
  unfold towB
  rw [getD_of hes]
  have : es.findIdx? (fun e => decide (0 < distI n r v) && decide (distI n r e.1.toNat = distI n r v - 1)) = none := by
    rw [List.findIdx?_eq_none_iff]
    intro e he
    obtain ⟨j, hj⟩ := List.getElem?_of_mem he
    have := hno j e (lt_of_get hj) hj
    cases hc : (decide (0 < distI n r v) && decide (distI n r e.1.toNat = distI n r v - 1))
    · rfl
    · rw [Bool.and_eq_true, decide_eq_true_eq, decide_eq_true_eq] at hc
      exact absurd hc this
  rw [this]
theorem distI_b {n : Net} (hn : netOk n = true) {r v : Nat} (hr : r < n.ends.length) (hv : v < n.ends.length) : -1 ≤ distI n r v ∧ distI n r v < n.ends.length := by
  have := dist_bd hn hr hv
  unfold distI
  omega
theorem dist_cell {n : Net} (hn : netOk n = true) {r : Nat} (hr : r < n.ends.length) {w : World} {A : Option Addr} {c : Nat} (h : IntS w (.slice A n.ends.length c) (distB n r)) : ∃ b off, A = some ⟨b, off, none⟩ ∧ ∀ x, x < n.ends.length → ∀ W, Since w W → W.cell? ⟨b, off + x, none⟩ = some (.int .i64 (distI n r x)) := by
  obtain ⟨A', c', e, _, _, hA⟩ := h
  have hl : (distB n r).length = n.ends.length := bfs_len hn _ _ _ (BI.start hr)
  rw [hl] at e
  cases e
  obtain ⟨b, off, e, -⟩ := hA 0 ((distB n r).getD 0 0) (by rw [List.getD_eq_getElem?_getD, List.getElem?_eq_getElem (by have := netOk_len hn; omega)]; rfl)
  refine ⟨b, off, e, fun x hx W hW => ?_⟩
  obtain ⟨b', off', e', hc⟩ := hA x ((distB n r).getD x 0) (by rw [List.getD_eq_getElem?_getD, List.getElem?_eq_getElem (by omega)]; rfl)
  rw [e] at e'
  cases e'
  exact have_cell hc W hW
set_option maxRecDepth 100000 in
set_option maxHeartbeats 1600000 in
theorem meToward_any (ve vi vn : Value) (n : Net) (r v cF : Nat) (AF : Option Addr) (w : World) (h : NetIn w ve vi vn n) (hn : netOk n = true) (hr : r < n.ends.length) (hv : v < n.ends.length) (hF : IntS w (.slice AF n.ends.length cF) (distB n r)) :
    Calls Tryz.prog 138 #[.agg #[ve, vi, vn], .slice AF n.ends.length cF, .int .i64 v] w fun e w' => e = .returned (.int .i64 (towB n r v)) ∧ Below w.heap.size w w' := by
  obtain ⟨bF, oF, rfl, hcell⟩ := dist_cell hn hr hF
  have HF := Lib.hid hcell
  have Hn := Lib.hid hn
  have hn40 := (netOk_len hn).2
  obtain ⟨es, hes⟩ := getx n.ends v hv
  obtain ⟨he6, hin⟩ := netOk_row hn hes
  have Hes := Lib.hid hes
  have Hin := Lib.hid hin
  have hdb := distI_b hn hr hv
  have Hr := Lib.hid hr
  clear hn hF hcell hes hin
  obtain ⟨w0, hw0⟩ : ∃ w0, w0 = (w).alloc (.cells #[ve, vi, vn] 27) := ⟨_, rfl⟩
  have hb0 : Below w.heap.size w w0 := by rw [hw0]; exact ((Below.refl _ _).alloc (by simp) _)
  have H := Lib.hid (h.keep hb0)
  obtain ⟨h1, h2, h3⟩ := h.keep hb0
  obtain ⟨A, c, rfl, hlc, hm, hA⟩ := h1
  obtain ⟨A2, c2, rfl, _, hm2, _⟩ := h2
  obtain ⟨A3, c3, rfl, _, hm3, _⟩ := h3
  unfold maxLen at hm hm2 hm3
  have p00 : ∀ W, Since w0 W → W.cell? ⟨w.heap.size, 0, none⟩ = some (.slice A n.ends.length c) := have_cell (by rw [hw0]; simp)
  have p01 : ∀ W, Since w0 W → W.cell? ⟨w.heap.size, 1, none⟩ = some (.slice A2 n.ids.length c2) := have_cell (by rw [hw0]; simp)
  have p02 : ∀ W, Since w0 W → W.cell? ⟨w.heap.size, 2, none⟩ = some (.slice A3 n.inputs.length c3) := have_cell (by rw [hw0]; simp)
  have Hb0 := Lib.hid hb0
  have Hw0 := Lib.hid hw0
  have HA := Lib.hid hA
  clear hA h
  clear hb0 hw0
  go_enter Tryz.func138, Tryz.ntmps138
  go_upto_region 1 with (fail)
  rw [← Hw0.out]
  go_wp2_with fail
  refine (neNear_any _ _ _ n v es w0 H.out Hes.out (by omega)).mono ?_
  rintro e w1 ⟨u, rfl, ho, hb1⟩
  have hs1 : Since w0 w1 := hb1
  obtain ⟨AU, cU, rfl, -, -, -⟩ := id ho.ints
  have hul : (es.map (·.1)).length = es.length := List.length_map _
  rw [hul] at ho
  have Ho := Lib.hid ho
  have Hs1 := Lib.hid hs1
  have Hs := Lib.hid (Since.after Hb0.out hs1)
  obtain ⟨dv, hdv⟩ : ∃ z, z = distI n r v := ⟨_, rfl⟩
  rw [← hdv] at hdb
  have m0 : IntKind.i64.wrap (dv - 1) = dv - 1 := wr64 _ (by omega) (by omega)
  have Hdv := Lib.hid hdv
  clear ho hs1 hb1 hul hdv
  rw [List.length_map]
  go_wp2
  go_loopw [13] (fun i wr => ∃ k : Nat, k ≤ es.length ∧ i = .int .i64 k ∧ Since w1 wr ∧ ∀ j f, j < k → es[j]? = some f → ¬ (0 < distI n r v ∧ distI n r f.1.toNat = distI n r v - 1)) (fun i _ => es.length - (intOf i).toNat)
  case atStart => exact ⟨0, Nat.zero_le _, rfl, since_refl _, fun j f hj => by omega⟩
  case round =>
    obtain ⟨k, hk, rfl, hs2, hno⟩ := hrel
    have Hs2 := Lib.hid hs2
    have Hno := Lib.hid hno
    clear hs2 hno
    by_cases hlt : k < es.length
    · obtain ⟨e, he⟩ := getx es k hlt
      have her := Hin.out e (List.mem_of_getElem? he)
      obtain ⟨x, hx⟩ := Int.eq_ofNat_of_zero_le her.1
      have hxl : x < n.ends.length := by omega
      have ho2 := Own.since Ho.out Hs2.out
      rcases ho2.cases with ⟨-, h9⟩ | ⟨g, cg, hvv, -, -⟩
      · exfalso
        have := congrArg List.length h9
        simp at this
        subst this
        simp at hlt
      · rw [List.length_map] at hvv
        cases hvv
        have c0 := ho2.cell (k := k) (x := (x : Int)) (by rw [List.getElem?_map, he]; show some e.1 = _; rw [hx])
        have d1 := HF.out v hv wr (Since.trans Hs.out Hs2.out)
        have d2 := HF.out x hxl
        rw [← Hdv.out] at d1
        obtain ⟨dw, hdw⟩ : ∃ z, z = distI n r x := ⟨_, rfl⟩
        rw [← hdw] at d2
        have Hdw := Lib.hid hdw
        have He := Lib.hid he
        have Hx := Lib.hid hx
        have m1 : IntKind.i64.wrap ((k : Int) + 1) = (k : Int) + 1 := wr64 _ (by omega) (by omega)
        have d1' := have_cell d1
        have d2' : ∀ W, Since wr W → W.cell? ⟨bF, oF + x, none⟩ = some (.int .i64 dw) := fun W hW => d2 W (Since.trans (Since.trans Hs.out Hs2.out) hW)
        obtain ⟨wo, rfl⟩ : ∃ z, z = wr := ⟨_, rfl⟩
        clear ho2 hdw he hx her d1 d2
        go_upto_region 4 with (fail)
        clear c0
        refine wp_region_flow 17 (Since wo) (by kernel_rfl) (by kernel_rfl) (by simp) (since_drew (since_refl _)) ?_
        simp only [List.take_succ_cons, List.take_zero, List.drop_succ_cons, List.drop_zero]
        refine flow_val (v := ?_) rfl ?_ ?_; rotate_left; (intro W hW; go_simp; with_reducible rfl)
        simp only [Act.put, List.setIfInBounds_toArray, List.set_cons_succ, List.set_cons_zero]
        refine flow_val (v := ?_) rfl ?_ ?_; rotate_left; (intro W hW; go_simp; with_reducible rfl)
        simp only [Act.put, List.setIfInBounds_toArray, List.set_cons_succ, List.set_cons_zero]
        refine flow_val (v := ?_) rfl ?_ ?_; rotate_left; (intro W hW; go_simp; with_reducible rfl)
        simp only [Act.put, List.setIfInBounds_toArray, List.set_cons_succ, List.set_cons_zero]
        refine flow_val (v := ?_) rfl ?_ ?_; rotate_left; (intro W hW; have k1 := d1' W hW; go_simp; with_reducible rfl)
        simp only [Act.put, List.setIfInBounds_toArray, List.set_cons_succ, List.set_cons_zero]
        refine flow_val (v := ?_) rfl ?_ ?_; rotate_left; (intro W hW; go_simp; with_reducible rfl)
        simp only [Act.put, List.setIfInBounds_toArray, List.set_cons_succ, List.set_cons_zero]
        refine flow_val (v := ?_) rfl ?_ ?_; rotate_left; (intro W hW; go_simp; with_reducible rfl)
        simp only [Act.put, List.setIfInBounds_toArray, List.set_cons_succ, List.set_cons_zero]
        refine flow_gval (v := ?_) rfl rfl ?_ ?_; rotate_left; (intro hb; intro W hW; go_simp; with_reducible rfl)
        simp only [Act.put, List.setIfInBounds_toArray, List.set_cons_succ, List.set_cons_zero]
        refine flow_gval (v := ?_) rfl rfl ?_ ?_; rotate_left; (intro hb; intro W hW; go_simp; with_reducible rfl)
        simp only [Act.put, List.setIfInBounds_toArray, List.set_cons_succ, List.set_cons_zero]
        refine flow_gval (v := ?_) rfl rfl ?_ ?_; rotate_left; (intro hb; intro W hW; go_simp; with_reducible rfl)
        simp only [Act.put, List.setIfInBounds_toArray, List.set_cons_succ, List.set_cons_zero]
        refine flow_gval (v := ?_) rfl rfl ?_ ?_; rotate_left; (intro hb; intro W hW; have k2 := d2' W hW; go_simp; with_reducible rfl)
        simp only [Act.put, List.setIfInBounds_toArray, List.set_cons_succ, List.set_cons_zero]
        refine flow_gval (v := ?_) rfl rfl ?_ ?_; rotate_left; (intro hb; intro W hW; go_simp; with_reducible rfl)
        simp only [Act.put, List.setIfInBounds_toArray, List.set_cons_succ, List.set_cons_zero]
        refine flow_gval (v := ?_) rfl rfl ?_ ?_; rotate_left; (intro hb; intro W hW; go_simp; with_reducible rfl)
        simp only [Act.put, List.setIfInBounds_toArray, List.set_cons_succ, List.set_cons_zero]
        refine flow_gval (v := ?_) rfl rfl ?_ ?_; rotate_left; (intro hb; intro W hW; go_simp; with_reducible rfl)
        simp only [Act.put, List.setIfInBounds_toArray, List.set_cons_succ, List.set_cons_zero]
        refine flow_gval (v := ?_) rfl rfl ?_ ?_; rotate_left; (intro hb; intro W hW; have k1 := d1' W hW; go_simp; with_reducible rfl)
        simp only [Act.put, List.setIfInBounds_toArray, List.set_cons_succ, List.set_cons_zero]
        refine flow_gval (v := ?_) rfl rfl ?_ ?_; rotate_left; (intro hb; intro W hW; go_simp; with_reducible rfl)
        simp only [Act.put, List.setIfInBounds_toArray, List.set_cons_succ, List.set_cons_zero]
        refine flow_gval (v := ?_) rfl rfl ?_ ?_; rotate_left; (intro hb; intro W hW; go_simp; with_reducible rfl)
        simp only [Act.put, List.setIfInBounds_toArray, List.set_cons_succ, List.set_cons_zero]
        first | refine flow_and rfl rfl ?_ | (refine flow_val (v := ?_) rfl ?_ ?_; rotate_left; (intro W hW; go_simp; with_reducible rfl))
        simp only [Act.put, List.setIfInBounds_toArray, List.set_cons_succ, List.set_cons_zero]
        intro W hW
        have Hs3 := Lib.hid (Since.trans Hs2.out hW)
        clear hW d1' d2'
        cases hg : (decide (0 < dv) && (dw == dv - 1))
        · rw [Bool.and_eq_false_iff, decide_eq_false_iff_not, beq_eq_false_iff_ne] at hg
          have Hg := Lib.hid hg
          clear hg
          go_wp2
          go_roundw
          case rel =>
            refine ⟨k + 1, by omega, by first | rfl | go_num, Hs3.out, fun j f hj hf => ?_⟩
            by_cases e0 : j < k
            · exact Hno.out j f e0 hf
            · obtain rfl : j = k := by omega
              rw [He.out] at hf
              cases hf
              rw [Hx.out, Int.toNat_natCast, ← Hdv.out, ← Hdw.out]
              rintro ⟨q1, q2⟩
              rcases Hg.out with h9 | h9
              · exact h9 q1
              · exact h9 q2
          case measure => simp [intOf]; omega
        · rw [Bool.and_eq_true, decide_eq_true_eq, beq_iff_eq] at hg
          have hR : towB n r v = (k : Int) := tow_hit Hes.out He.out (by rw [Hx.out, Int.toNat_natCast, ← Hdv.out, ← Hdw.out]; exact hg) Hno.out
          have HR := Lib.hid hR
          clear hg hR
          go_wp2
          go_ret
          exact ⟨by rw [HR.out]; rfl, Since.trans Hs.out Hs3.out⟩
    · obtain rfl : k = es.length := by omega
      have hR : towB n r v = -1 := tow_none Hes.out Hno.out
      have HR := Lib.hid hR
      clear hR
      go_wp2
      go_ret
      exact ⟨by rw [HR.out]; rfl, Since.trans Hs.out Hs2.out⟩
end Go.Proofs.YtfkmkpamdlhbgaaGreat
namespace Go.Proofs.YtfkmkpamdlhbgaaGreat
open Go.RowKit
/-! meSpan, plBelow -/
theorem span_snoc (n : Net) (r k : Nat) : (List.range (k + 1)).map (towB n r) = (List.range k).map (towB n r) ++ [towB n r k] := by rw [List.range_succ, List.map_append]; rfl
theorem distB_ln {n : Net} (hn : netOk n = true) {r : Nat} (hr : r < n.ends.length) : (distB n r).length = n.ends.length := bfs_len hn _ _ _ (BI.start hr)
set_option maxRecDepth 100000 in
set_option maxHeartbeats 1600000 in
theorem meSpan_any (ve vi vn : Value) (n : Net) (r : Nat) (w : World) (h : NetIn w ve vi vn n) (hn : netOk n = true) (hr : r < n.ends.length) :
    Calls Tryz.prog 90 #[.agg #[ve, vi, vn], .int .i64 r] w fun e w' => ∃ u, e = .returned u ∧ Own w' w.heap.size u (spanB n r) ∧ Below w.heap.size w w' := by
  have hn40 := (netOk_len hn).2
  have Hn := Lib.hid hn
  obtain ⟨w0, hw0⟩ : ∃ w0, w0 = (w).alloc (.cells #[ve, vi, vn] 27) := ⟨_, rfl⟩
  have hb0 : Below w.heap.size w w0 := by rw [hw0]; exact ((Below.refl _ _).alloc (by simp) _)
  have H := Lib.hid (h.keep hb0)
  obtain ⟨h1, h2, h3⟩ := h.keep hb0
  obtain ⟨A, c, rfl, hlc, hm, hA⟩ := h1
  obtain ⟨A2, c2, rfl, _, hm2, _⟩ := h2
  obtain ⟨A3, c3, rfl, _, hm3, _⟩ := h3
  unfold maxLen at hm hm2 hm3
  have p00 : ∀ W, Since w0 W → W.cell? ⟨w.heap.size, 0, none⟩ = some (.slice A n.ends.length c) := have_cell (by rw [hw0]; simp)
  have p01 : ∀ W, Since w0 W → W.cell? ⟨w.heap.size, 1, none⟩ = some (.slice A2 n.ids.length c2) := have_cell (by rw [hw0]; simp)
  have p02 : ∀ W, Since w0 W → W.cell? ⟨w.heap.size, 2, none⟩ = some (.slice A3 n.inputs.length c3) := have_cell (by rw [hw0]; simp)
  have Hb0 := Lib.hid hb0
  have Hw0 := Lib.hid hw0
  have HA := Lib.hid hA
  clear hA h
  clear hb0 hw0
  clear hn
  unfold spanB
  go_enter Tryz.func90, Tryz.ntmps90
  go_upto_region 1 with (fail)
  rw [← Hw0.out]
  go_wp2_with fail
  refine (meFrom_any _ _ _ n r w0 H.out Hn.out hr).mono ?_
  rintro e w1 ⟨uF, rfl, hoF, hb1⟩
  have hs1 : Since w0 w1 := hb1
  obtain ⟨AF, cF, rfl, -, -, -⟩ := id hoF.ints
  rw [distB_ln Hn.out hr] at hoF
  have HoF := Lib.hid hoF.ints
  have Hs1 := Lib.hid hs1
  clear hoF hb1
  rw [distB_ln Hn.out hr]
  go_wp2
  go_loopw [6, 14] (fun u i wr => ∃ k : Nat, k ≤ n.ends.length ∧ i = .int .i64 k ∧ Own wr w1.heap.size u ((List.range k).map (towB n r)) ∧ Since w1 wr) (fun _ i _ => n.ends.length - (intOf i).toNat)
  case atStart => exact ⟨0, Nat.zero_le _, rfl, by simpa using own_nil _ w1.heap.size, since_refl _⟩
  case round =>
    obtain ⟨k, hk, rfl, ho, hsr⟩ := hrel
    have Ho := Lib.hid ho
    have Hs := Lib.hid hsr
    clear ho
    have hs0r := Since.trans Hs1.out Hs.out
    have Hs0r := Lib.hid hs0r
    clear hs1
    by_cases hlt : k < n.ends.length
    · have m3 : IntKind.i64.wrap ((k : Int) + 1) = (k : Int) + 1 := wr64 _ (by omega) (by omega)
      have Hlen : Hid (((List.range k).map (towB n r)).length + 1 ≤ 17592186044416) := by show _ ≤ _; simp; omega
      have Hn1 := Lib.hid (span_snoc n r k)
      go_wp2_with fail
      refine (meToward_any _ _ _ n r k cF AF wr (H.out.keep Hs0r.out.below) Hn.out hr hlt (HoF.out.keep Hs.out.below)).mono ?_
      rintro e w2 ⟨rfl, hb2⟩
      have Hs2 := Lib.hid (Since.after Hs0r.out hb2)
      have Hs12 := Lib.hid (Since.after Hs.out hb2)
      have Ho2 := Lib.hid (Own.since Ho.out hb2)
      obtain ⟨y, hy⟩ : ∃ y, y = towB n r k := ⟨_, rfl⟩
      rw [← hy] at Hn1 ⊢
      have Hy := Lib.hid hy
      clear hb2 hsr hy hs0r
      go_wp2_with (at_builtin; refine app_int_s rfl _ _ rfl rfl (Ho2.out.since (since_alloc _ (since_refl _))) w2.heap.size y rfl (by simp [go_sem]) Hlen.out (since_alloc _ Hs12.out) ?_; intro g cc w3 ho3 hs3)
      have Ho3 := Lib.hid ho3
      have Hs3 : Hid (Since w1 w3) := hs3
      clear ho3 hs3
      go_wp2
      go_roundw
      case rel => exact ⟨k + 1, by omega, by first | rfl | go_num, by rw [Hn1.out]; have := Ho3.out; simpa using this, Hs3.out⟩
      case measure => simp [intOf]; omega
    · obtain rfl : k = n.ends.length := by omega
      clear hk hlt
      go_wp2
      go_ret
      exact ⟨_, rfl, Ho.out.mono (Nat.le_trans Hb0.out.size Hs1.out.below.size), Since.trans Hb0.out Hs0r.out⟩
theorem span_get {n : Net} {r x : Nat} (hx : x < n.ends.length) : (spanB n r)[x]? = some (towB n r x) := by
  unfold spanB
  rw [List.getElem?_map, List.getElem?_range hx]; rfl
theorem countP_sn2 {p : Nat → Bool} (k : Nat) : (List.range (k + 1)).countP p = (List.range k).countP p + (if p k = true then 1 else 0) := by
  rw [List.range_succ, List.countP_append, List.countP_singleton]
set_option maxRecDepth 100000 in
set_option maxHeartbeats 1600000 in
theorem plBelow_any (ve vi vn : Value) (n : Net) (r v cP : Nat) (AP : Option Addr) (w : World) (h : NetIn w ve vi vn n) (hn : netOk n = true) (hr : r < n.ends.length) (hv : v < n.ends.length) (hP : IntS w (.slice AP n.ends.length cP) (spanB n r)) :
    Calls Tryz.prog 91 #[.agg #[ve, vi, vn], .slice AP n.ends.length cP, .int .i64 v] w fun e w' => e = .returned (.int .i64 ((subB n.ends.length (depR n r) (parR n r) v : Nat) : Int)) ∧ Below w.heap.size w w' := by
  have hn40 := netOk_len hn
  have hT := trR hn hr
  have HT := Lib.hid hT
  have Hn := Lib.hid hn
  have HP := Lib.hid hP
  obtain ⟨bP, oP, rfl, hcell⟩ : ∃ b off, AP = some ⟨b, off, none⟩ ∧ ∀ x, x < n.ends.length → ∀ W, Since w W → W.cell? ⟨b, off + x, none⟩ = some (.int .i64 (towB n r x)) := by
    obtain ⟨A', c', e, _, _, hA⟩ := hP
    rw [show (spanB n r).length = n.ends.length by simp [spanB]] at e
    cases e
    obtain ⟨b, off, e, -⟩ := hA 0 _ (span_get (show 0 < n.ends.length by omega))
    refine ⟨b, off, e, fun x hx W hW => ?_⟩
    obtain ⟨b', off', e', hc⟩ := hA x _ (span_get hx)
    rw [e] at e'
    cases e'
    exact have_cell hc W hW
  have HC := Lib.hid hcell
  have hn1 := hn40.1
  have hn2 := hn40.2
  clear hn hP hcell hT hn40
  obtain ⟨w0, hw0⟩ : ∃ w0, w0 = (w).alloc (.cells #[ve, vi, vn] 27) := ⟨_, rfl⟩
  have hb0 : Below w.heap.size w w0 := by rw [hw0]; exact ((Below.refl _ _).alloc (by simp) _)
  have H := Lib.hid (h.keep hb0)
  obtain ⟨h1, h2, h3⟩ := h.keep hb0
  obtain ⟨A, c, rfl, hlc, hm, hA⟩ := h1
  obtain ⟨A2, c2, rfl, _, hm2, _⟩ := h2
  obtain ⟨A3, c3, rfl, _, hm3, _⟩ := h3
  unfold maxLen at hm hm2 hm3
  have p00 : ∀ W, Since w0 W → W.cell? ⟨w.heap.size, 0, none⟩ = some (.slice A n.ends.length c) := have_cell (by rw [hw0]; simp)
  have p01 : ∀ W, Since w0 W → W.cell? ⟨w.heap.size, 1, none⟩ = some (.slice A2 n.ids.length c2) := have_cell (by rw [hw0]; simp)
  have p02 : ∀ W, Since w0 W → W.cell? ⟨w.heap.size, 2, none⟩ = some (.slice A3 n.inputs.length c3) := have_cell (by rw [hw0]; simp)
  have Hb0 := Lib.hid hb0
  have Hw0 := Lib.hid hw0
  have HA := Lib.hid hA
  clear hA h
  clear hb0 hw0
  go_enter Tryz.func91, Tryz.ntmps91
  go_upto_region 2 with (fail)
  rw [← Hw0.out]
  have hs0 : Since w0 w0 := since_refl _
  obtain ⟨C, hC⟩ : ∃ C : Nat → Nat, C = fun k => (List.range k).countP fun w => anc (depR n r) (parR n r) w v := ⟨_, rfl⟩
  have HCd := Lib.hid hC
  have hCb : ∀ k, C k ≤ k := fun k => by rw [hC]; exact Nat.le_trans List.countP_le_length (by simp)
  have HCb := Lib.hid hCb
  have hC0 : C 0 = 0 := by rw [hC]; rfl
  have HC0 := Lib.hid hC0
  clear hC hCb hC0
  go_wp2
  go_loopw [7, 12] (fun tc ti wr => ∃ k : Nat, k ≤ n.ends.length ∧ ti = .int .i64 k ∧ tc = .int .i64 ((C k : Nat) : Int) ∧ Since w0 wr) (fun _ ti _ => n.ends.length - (intOf ti).toNat)
  case atStart => exact ⟨0, Nat.zero_le _, rfl, by rw [HC0.out]; rfl, hs0⟩
  case round =>
    obtain ⟨k, hk, rfl, rfl, hsr⟩ := hrel
    have Hs := Lib.hid hsr
    clear hsr hs0
    obtain ⟨ck, hck⟩ : ∃ z, z = C k := ⟨_, rfl⟩
    have Hck := Lib.hid hck
    have hckb : ck ≤ k := by rw [hck]; exact HCb.out k
    rw [← hck]
    clear hck
    by_cases hlt : k < n.ends.length
    · have m3 : IntKind.i64.wrap ((k : Int) + 1) = (k : Int) + 1 := wr64 _ (by omega) (by omega)
      have m4 : IntKind.i64.wrap ((ck : Int) + 1) = ((ck + 1 : Nat) : Int) := by rw [wr64 _ (by omega) (by omega)]; omega
      obtain ⟨ck1, hck1⟩ : ∃ z, z = ck + 1 := ⟨_, rfl⟩
      rw [← hck1] at m4
      have Hck1 := Lib.hid hck1
      clear hck1
      obtain ⟨wo, rfl⟩ : ∃ z, z = wr := ⟨_, rfl⟩
      go_wp2
      go_loopw [7, 9] (fun tc tx wr => ∃ x : Nat, x < n.ends.length ∧ tx = .int .i64 x ∧ tc = .int .i64 (ck : Int) ∧ anc (depR n r) (parR n r) k v = anc (depR n r) (parR n r) x v ∧ Since w0 wr) (fun _ tx _ => (depR n r (intOf tx).toNat).toNat)
      case atStart => exact ⟨k, hlt, rfl, rfl, rfl, Hs.out⟩
      case round =>
        obtain ⟨x, hx, rfl, rfl, ha, hs2⟩ := hrel
        have Ha := Lib.hid ha
        have Hs2 := Lib.hid hs2
        clear ha hs2
        have hsW : Since w wr := Since.trans Hb0.out Hs2.out
        have cx := HC.out x hx wr hsW
        obtain ⟨tw, htw⟩ : ∃ z, z = towB n r x := ⟨_, rfl⟩
        rw [← htw] at cx
        have Htw := Lib.hid htw
        clear htw
        by_cases hxv : x = v
        · have e0 : ((x : Int) = (v : Int)) = True := by simp [hxv]
          have e0b : ((x : Int) == (v : Int)) = true := by simp [hxv]
          have hCn : C (k + 1) = ck1 := by
            rw [HCd.out]
            show (List.range (k + 1)).countP _ = _
            rw [countP_sn2, Ha.out, hxv, anc_self HT.out hv, if_pos rfl, Hck1.out, Hck.out, HCd.out]
          have HCn := Lib.hid hCn
          clear hCn cx
          go_wp2
          go_roundw
          case rel => exact ⟨k + 1, by omega, by first | rfl | go_num, by first | (rw [HCn.out]; done) | (rw [HCn.out]; go_num), Hs2.out⟩
          case measure => simp [intOf]; omega
        · have e0 : ((x : Int) = (v : Int)) = False := by simp; omega
          have e0b : ((x : Int) == (v : Int)) = false := beq_eq_false_iff_ne.2 (by omega)
          by_cases hneg : tw < 0
          · have hno : anc (depR n r) (parR n r) x v = false := by
              rw [anc_eq HT.out hx]
              have : parR n r x = none := by unfold parR; rw [if_neg (by rw [← Htw.out]; omega)]
              rw [this]
              simp [hxv]
            have hCn : C (k + 1) = ck := by
              rw [HCd.out]
              show (List.range (k + 1)).countP _ = _
              rw [countP_sn2, Ha.out, hno, if_neg (by simp), Hck.out, HCd.out]; rfl
            have HCn := Lib.hid hCn
            clear hCn hno
            go_wp2
            go_roundw
            case rel => exact ⟨k + 1, by omega, by first | rfl | go_num, by first | (rw [HCn.out]; done) | (rw [HCn.out]; go_num), Hs2.out⟩
            case measure => simp [intOf]; omega
          · obtain ⟨q, rfl⟩ := Int.eq_ofNat_of_zero_le (show 0 ≤ tw by omega)
            have htq := Htw.out
            obtain ⟨s1, s2, s3, s4, s5, s6⟩ := towB_step Hn.out hr (r := r) (v := x) (by omega)
            rw [← htq] at s2 s4 s6
            rw [Int.toNat_natCast] at s6
            obtain ⟨es, hes⟩ := getx n.ends x hx
            rw [getD_of hes] at s6
            obtain ⟨e, he⟩ := getx es q s6
            have her := (netOk_row Hn.out hes).2 e (List.mem_of_getElem? he)
            obtain ⟨y, hy⟩ := Int.eq_ofNat_of_zero_le her.1
            have hnode : nodeAt n x (q : Int) = y := by unfold nodeAt; rw [getD_of hes, Int.toNat_natCast, getD_of he, hy]; exact Int.toNat_natCast y
            rw [hnode] at s2 s4
            have hpar : parR n r x = some y := by unfold parR; rw [← htq, if_pos (by omega), hnode]
            have hanc : anc (depR n r) (parR n r) x v = anc (depR n r) (parR n r) y v := by
              rw [anc_eq HT.out hx, hpar]
              simp [hxv]
            have hdep := (HT.out.some_ x y hx hpar).2
            have hpos := HT.out.pos y s2
            obtain ⟨bE, oE, cE, uE, hAE, -, hc1, hrow⟩ := row_at H.out.es hes
            obtain ⟨A9, y9, rfl, hz1, hz2, hA9⟩ := hrow
            obtain ⟨g1, o1, rfl, t1, t2⟩ := hA9 q e he
            rw [hy] at t1
            have d0 := p00 wr Hs2.out
            have d1 := have_cell hc1 wr Hs2.out
            have d2 := have_cell t1 wr Hs2.out
            cases hAE
            have Hfin := Lib.hid (And.intro (Ha.out.trans hanc) (And.intro s2 (And.intro hdep hpos)))
            unfold maxLen at hz2
            clear s1 s2 s3 s4 s5 hes he her hy hnode hpar hanc hdep hpos hc1 t1 t2 hA9 htq hsW
            go_upto_region 6 with (fail)
            go_region
            clear d0 d1 d2 cx
            go_wp2
            go_roundw
            case rel => exact ⟨y, Hfin.out.2.1, by first | rfl | go_num, by first | rfl | go_num, Hfin.out.1, since_drew Hs2.out⟩
            case measure => have h9 := Hfin.out.2.2; simp [intOf]; omega
    · obtain rfl : k = n.ends.length := by omega
      have hR : ((ck : Nat) : Int) = ((subB n.ends.length (depR n r) (parR n r) v : Nat) : Int) := by
        rw [Hck.out, HCd.out]; rfl
      have HR := Lib.hid hR
      clear hR
      go_wp2
      go_ret
      exact ⟨by rw [← HR.out]; first | rfl | simp, Since.trans Hb0.out Hs.out⟩
end Go.Proofs.YtfkmkpamdlhbgaaGreat
namespace Go.Proofs.YtfkmkpamdlhbgaaGreat
open Go.RowKit
/-! no cycle: the reference's girth and the program's count of edges, plain law -/
def portF (n : Net) (v i : Nat) : Int × Int := (n.ends.getD v []).getD i (0, 0)
def avoidB (n : Net) (v i : Nat) : Int := (distB (cutB n (keepX v i (portF n v i))) v).getD (portF n v i).1.toNat 0
def gStep (out d : Int) : Int := if 0 ≤ d ∧ (out = 0 ∨ d + 1 < out) then d + 1 else out
def gPort (n : Net) (v : Nat) (out : Int) (i : Nat) : Int := if portF n v i = ((v : Int), (i : Int)) then out else gStep out (avoidB n v i)
def gRow (n : Net) (v k : Nat) (out : Int) : Int := (List.range k).foldl (gPort n v) out
def gTo (n : Net) (k : Nat) : Int := (List.range k).foldl (fun out v => gRow n v (n.ends.getD v []).length out) 0
def girthB (n : Net) : Int := gTo n n.ends.length
theorem gRow_succ (n : Net) (v k : Nat) (out : Int) : gRow n v (k + 1) out = gPort n v (gRow n v k out) k := by unfold gRow; rw [List.range_succ, List.foldl_append]; rfl
theorem gTo_succ (n : Net) (k : Nat) : gTo n (k + 1) = gRow n k (n.ends.getD k []).length (gTo n k) := by unfold gTo; rw [List.range_succ, List.foldl_append]; rfl
theorem gStep_pos {out d : Int} (h : 0 ≤ out) : 0 ≤ gStep out d := by unfold gStep; split <;> omega
theorem gStep_zero {out d : Int} (h : 0 ≤ out) : gStep out d = 0 ↔ out = 0 ∧ d < 0 := by
  unfold gStep
  split
  · rename_i h1; omega
  · rename_i h1; omega
theorem gPort_pos {n : Net} {v : Nat} {out : Int} {i : Nat} (h : 0 ≤ out) : 0 ≤ gPort n v out i := by
  unfold gPort
  split
  · exact h
  · exact gStep_pos h
def noWay (n : Net) (v i : Nat) : Prop := portF n v i = ((v : Int), (i : Int)) ∨ avoidB n v i < 0
theorem gPort_zero {n : Net} {v : Nat} {out : Int} {i : Nat} (h : 0 ≤ out) : gPort n v out i = 0 ↔ out = 0 ∧ noWay n v i := by
  unfold gPort noWay
  split
  · rename_i e; exact ⟨fun h => ⟨h, .inl e⟩, fun h => h.1⟩
  · rename_i e
    rw [gStep_zero h]
    exact ⟨fun h => ⟨h.1, .inr h.2⟩, fun h => ⟨h.1, h.2.resolve_left e⟩⟩
theorem gRow_pos {n : Net} {v k : Nat} {out : Int} (h : 0 ≤ out) : 0 ≤ gRow n v k out := by
  induction k with
  | zero => exact h
  | succ k ih => rw [gRow_succ]; exact gPort_pos ih
theorem gRow_zero {n : Net} {v k : Nat} {out : Int} (h : 0 ≤ out) : gRow n v k out = 0 ↔ out = 0 ∧ ∀ i, i < k → noWay n v i := by
  induction k with
  | zero => exact ⟨fun h => ⟨h, fun i hi => by omega⟩, fun h => h.1⟩
  | succ k ih =>
    rw [gRow_succ, gPort_zero (gRow_pos h), ih]
    constructor
    · rintro ⟨⟨h1, h2⟩, h3⟩
      exact ⟨h1, fun i hi => by rcases Nat.lt_or_ge i k with h4 | h4; exact h2 i h4; rw [show i = k by omega]; exact h3⟩
    · rintro ⟨h1, h2⟩
      exact ⟨⟨h1, fun i hi => h2 i (by omega)⟩, h2 k (by omega)⟩
theorem gTo_pos {n : Net} {k : Nat} : 0 ≤ gTo n k := by
  induction k with
  | zero => exact Int.le_refl _
  | succ k ih => rw [gTo_succ]; exact gRow_pos ih
theorem gTo_zero {n : Net} {k : Nat} : gTo n k = 0 ↔ ∀ v, v < k → ∀ i, i < (n.ends.getD v []).length → noWay n v i := by
  induction k with
  | zero => exact ⟨fun _ v hv => by omega, fun _ => rfl⟩
  | succ k ih =>
    rw [gTo_succ, gRow_zero gTo_pos, ih]
    constructor
    · rintro ⟨h1, h2⟩ v hv
      rcases Nat.lt_or_ge v k with h4 | h4
      · exact h1 v h4
      · rw [show v = k by omega]; exact h2
    · intro h
      exact ⟨fun v hv => h v (by omega), h k (by omega)⟩
theorem portAt_iff {n : Net} {v i : Nat} {f : Int × Int} : PortAt n v i f ↔ i < (n.ends.getD v []).length ∧ portF n v i = f := by
  unfold PortAt portF
  rw [List.getElem?_eq_some_iff]
  constructor
  · rintro ⟨h, rfl⟩
    exact ⟨h, getD_of (List.getElem?_eq_getElem h)⟩
  · rintro ⟨h, rfl⟩
    exact ⟨h, (getD_of (List.getElem?_eq_getElem h)).symm⟩
def stubP (n : Net) : Bool := (List.range n.ends.length).any fun v => (List.range (n.ends.getD v []).length).any fun i => decide (portF n v i = ((v : Int), (i : Int)))
theorem stub_eq {n : Net} (hn : netOk n = true) : stubB n = stubP n := by
  rw [Bool.eq_iff_iff]
  unfold stubB stubP
  simp only [List.any_eq_true, List.mem_range, decide_eq_true_eq, Bool.and_eq_true]
  constructor
  · rintro ⟨e, he, h1, h2⟩
    obtain ⟨v, i, f, hv, hp, hk, rfl⟩ := mem_edges_port.1 he
    obtain ⟨h3, h4⟩ := portAt_iff.1 hp
    refine ⟨v, hv, i, h3, ?_⟩
    rw [h4]
    exact Prod.ext h1.symm h2.symm
  · rintro ⟨v, hv, i, hi, h⟩
    refine ⟨_, mem_edges_port.2 ⟨v, i, _, hv, portAt_iff.2 ⟨hi, h⟩, ?_, rfl⟩, rfl, rfl⟩
    unfold keepE
    simp
theorem for_eq2 {n : Net} (hn : netOk n = true) : forB n = (!stubP n && girthB n == 0) := by
  unfold forB
  rw [stub_eq hn]
  cases hs : stubP n
  · simp only [Bool.not_false, Bool.true_and]
    rw [Bool.eq_iff_iff, decide_eq_true_eq, beq_iff_eq, forest_net hn]
    unfold girthB
    rw [gTo_zero]
    have hns : ∀ v i, v < n.ends.length → i < (n.ends.getD v []).length → portF n v i ≠ ((v : Int), (i : Int)) := by
      intro v i hv hi e
      have : stubP n = true := List.any_eq_true.2 ⟨v, List.mem_range.2 hv, List.any_eq_true.2 ⟨i, List.mem_range.2 hi, decide_eq_true e⟩⟩
      rw [hs] at this
      cases this
    have key : ∀ v i, v < n.ends.length → ∀ (hi : i < (n.ends.getD v []).length), (¬ Rch (cutB n (keepX v i (portF n v i))) v (portF n v i).1.toNat ↔ noWay n v i) := by
      intro v i hv hi
      have hp : PortAt n v i (portF n v i) := portAt_iff.2 ⟨hi, rfl⟩
      obtain ⟨p1, p2, p3, p4, p5⟩ := port_in hn hp
      have hc := cut_ok hn (keepX v i (portF n v i)) (keepX_ok hn hp)
      have hcl : (cutB n (keepX v i (portF n v i))).ends.length = n.ends.length := by simp [cutB]
      have := dist_iff hc (v := v) (w := (portF n v i).1.toNat) (by omega) (by omega)
      unfold noWay
      rw [← this]
      unfold avoidB
      constructor
      · intro h; exact .inr (by omega)
      · rintro (h | h)
        · exact absurd h (hns v i hv hi)
        · omega
    constructor
    · intro h v hv i hi
      exact (key v i hv hi).1 (h v i _ (portAt_iff.2 ⟨hi, rfl⟩))
    · intro h v i f hp
      obtain ⟨h1, h2⟩ := portAt_iff.1 hp
      have hv := (port_in hn hp).1
      subst h2
      exact (key v i hv h1).2 (h v hv i h1)
  · simp
end Go.Proofs.YtfkmkpamdlhbgaaGreat
namespace Go.Proofs.YtfkmkpamdlhbgaaGreat
open Go.RowKit
/-! the searches find the first good labels, or none -/
def okB (n : Net) (l : List Int) : Prop := ∀ v, v < n.ends.length → (0 ≤ l.getD v 0 ∧ l.getD v 0 ≤ 2) ∧ ∀ e ∈ n.ends.getD v [], l.getD e.1.toNat 0 ≠ l.getD v 0
/-- t comes behind what was tried -/
def Later (N : Nat) (l t : List Int) (v : Nat) : Prop := (∃ i, i ≤ v ∧ i < N ∧ (∀ j, j < i → t.getD j 0 = l.getD j 0) ∧ l.getD i 0 < t.getD i 0) ∨ (N ≤ v ∧ ∀ j, j < N → t.getD j 0 = l.getD j 0)
theorem Later.start {N : Nat} {t : List Int} (h0 : 0 < N) (h : 0 ≤ t.getD 0 0) : Later N (List.replicate N (-1)) t 0 := by
  refine .inl ⟨0, Nat.le_refl _, h0, fun j hj => by omega, ?_⟩
  simp [List.getD_eq_getElem?_getD, List.getElem?_replicate, h0]
  rw [List.getD_eq_getElem?_getD] at h
  omega
theorem getD_set_ne {l : List Int} {v j : Nat} {x : Int} (h : j ≠ v) : (l.set v x).getD j 0 = l.getD j 0 := by
  rw [List.getD_eq_getElem?_getD, List.getElem?_set_ne (Ne.symm h), ← List.getD_eq_getElem?_getD]
theorem Later.back {N : Nat} {l t : List Int} {v : Nat} (h : Later N l t v) (hv : v < N) (hm : t.getD v 0 ≤ l.getD v 0) : v ≠ 0 ∧ Later N (l.set v (-1)) t (v - 1) := by
  rcases h with ⟨i, h1, h2, h3, h4⟩ | ⟨h1, -⟩
  · have hne : i ≠ v := fun e => by subst e; omega
    refine ⟨by omega, .inl ⟨i, by omega, h2, fun j hj => ?_, ?_⟩⟩
    · rw [getD_set_ne (by omega)]; exact h3 j hj
    · rw [getD_set_ne hne]; exact h4
  · omega
theorem Later.up {N : Nat} {l t : List Int} {v : Nat} (h : Later N l t v) (hv : v < N) : Later N l t (v + 1) := by
  rcases h with ⟨i, h1, h2, h3, h4⟩ | ⟨h1, h2⟩
  · exact .inl ⟨i, by omega, h2, h3, h4⟩
  · omega
theorem Later.same {N : Nat} {l t : List Int} {v : Nat} (h : ∀ j, j ≤ v → t.getD j 0 = l.getD j 0) (hl : v + 1 < N → l.getD (v + 1) 0 < t.getD (v + 1) 0) : Later N l t (v + 1) := by
  by_cases e : v + 1 < N
  · exact .inl ⟨v + 1, Nat.le_refl _, e, fun j hj => h j (by omega), hl e⟩
  · exact .inr ⟨by omega, fun j hj => h j (by omega)⟩
/-- the machine of the colouring keeps: a prefix that is good -/
structure TcOk (n : Net) (l : List Int) (v : Nat) : Prop where
  st : St n.ends.length 2 l v
  good : ∀ a, a < v → a < n.ends.length → ∀ e ∈ n.ends.getD a [], e.1.toNat < v → l.getD e.1.toNat 0 ≠ l.getD a 0
theorem near_mem {l : List Int} {es : List (Int × Int)} {x : Int} : x ∈ nearB l es ↔ ∃ e ∈ es, l.getD e.1.toNat 0 = x := by
  unfold nearB
  rw [List.mem_map]
theorem tcGood_iff {n : Net} {l : List Int} {v : Nat} : tcGood n l v = true ↔ ∀ e ∈ n.ends.getD v [], l.getD e.1.toNat 0 ≠ l.getD v 0 := by
  unfold tcGood
  rw [Bool.not_eq_true', List.contains_eq_mem, decide_eq_false_iff_not, near_mem]
  constructor
  · intro h e he hc; exact h ⟨e, he, hc⟩
  · rintro h ⟨e, he, hc⟩; exact h e he hc
theorem edge_back {n : Net} (hn : netOk n = true) {a : Nat} {e : Int × Int} (he : e ∈ n.ends.getD a []) : ∃ f ∈ n.ends.getD e.1.toNat [], f.1.toNat = a ∧ e.1.toNat < n.ends.length ∧ a < n.ends.length := by
  obtain ⟨i, hi⟩ := List.getElem?_of_mem he
  have h := port_in hn (v := a) (i := i) (f := e) hi
  refine ⟨_, List.mem_of_getElem? h.2.2.2.2, by simp, by omega, h.1⟩
theorem TcOk.back {n : Net} {l : List Int} {v : Nat} (h : TcOk n l v) (h0 : v ≠ 0) : TcOk n (l.set v (-1)) (v - 1) := by
  refine ⟨h.st.back h0, fun a ha haN e he hev => ?_⟩
  rw [getD_set_ne (by omega), getD_set_ne (by omega)]
  exact h.good a (by omega) haN e he (by omega)
theorem TcOk.stay {n : Net} {l : List Int} {v : Nat} (h : TcOk n l v) (hv : v < n.ends.length) (hm : l.getD v 0 ≠ 2) : TcOk n (l.set v (l.getD v 0 + 1)) v := by
  refine ⟨(h.st.up hv hm).stay, fun a ha haN e he hev => ?_⟩
  rw [getD_set_ne (by omega), getD_set_ne (by omega)]
  exact h.good a ha haN e he hev
theorem TcOk.on {n : Net} (hn : netOk n = true) {l : List Int} {v : Nat} (h : TcOk n l v) (hv : v < n.ends.length) (hm : l.getD v 0 ≠ 2) (hg : tcGood n (l.set v (l.getD v 0 + 1)) v = true) : TcOk n (l.set v (l.getD v 0 + 1)) (v + 1) := by
  refine ⟨(h.st.up hv hm).on (by omega), fun a ha haN e he hev => ?_⟩
  have hg := tcGood_iff.1 hg
  by_cases e1 : a = v
  · subst e1; exact hg e he
  · by_cases e2 : e.1.toNat = v
    · obtain ⟨f, hf, h1, -, -⟩ := edge_back hn he
      have := hg f (by rw [← e2]; exact hf)
      rw [h1] at this
      rw [e2]
      exact Ne.symm this
    · rw [getD_set_ne e2, getD_set_ne e1]
      exact h.good a (by omega) haN e he (by omega)
theorem tc_good {n : Net} (hn : netOk n = true) : ∀ (f : Nat) (l : List Int) (v s : Nat) (r : List Int), TcOk n l v → v ≤ n.ends.length → tcRun n f l v s = some (some r) → okB n r ∧ r.length = n.ends.length
  | 0, l, v, s, r, _, _, hr => by simp [tcRun] at hr
  | f + 1, l, v, s, r, h, hv, hr => by
    have hlen := h.st.len
    unfold tcRun at hr
    by_cases h1 : (l.length : Int) ≤ (v : Int)
    · rw [if_pos h1] at hr
      cases hr
      refine ⟨fun a ha => ⟨h.st.lo a (by omega) ha, fun e he => ?_⟩, hlen⟩
      obtain ⟨-, -, -, hel, -⟩ := edge_back hn he
      exact h.good a (by omega) ha e he (by omega)
    · rw [if_neg h1, if_neg (by omega)] at hr
      rw [Int.toNat_natCast] at hr
      have hvN : v < n.ends.length := by omega
      by_cases h2 : l.getD v 0 = 2
      · rw [if_pos h2] at hr
        by_cases h0 : v = 0
        · subst h0
          cases f with
          | zero => simp [tcRun] at hr
          | succ f =>
            unfold tcRun at hr
            rw [if_neg (by omega), if_pos (by omega)] at hr
            cases hr
        · rw [show (v : Int) - 1 = ((v - 1 : Nat) : Int) by omega] at hr
          exact tc_good hn f _ _ s r (h.back h0) (by omega) hr
      · rw [if_neg h2] at hr
        by_cases h3 : s = 200000
        · rw [if_pos h3] at hr; cases hr
        · rw [if_neg h3] at hr
          cases hg : tcGood n (l.set v (l.getD v 0 + 1)) v
          · rw [hg, if_neg (by simp)] at hr
            exact tc_good hn f _ _ _ r (h.stay hvN h2) hv hr
          · rw [hg, if_pos rfl, show (v : Int) + 1 = ((v + 1 : Nat) : Int) by omega] at hr
            exact tc_good hn f _ _ _ r (h.on hn hvN h2 hg) (by omega) hr
theorem TcOk.start (n : Net) : TcOk n (List.replicate n.ends.length (-1)) 0 := ⟨St.start _ _ (by omega), fun a ha => by omega⟩
theorem tcAll_good {n : Net} (hn : netOk n = true) {r : List Int} (h : tcAll n = some (some r)) : okB n r ∧ r.length = n.ends.length := by
  unfold tcAll at h
  exact tc_good hn 400002 _ 0 0 r (TcOk.start n) (Nat.zero_le _) h
end Go.Proofs.YtfkmkpamdlhbgaaGreat
namespace Go.Proofs.YtfkmkpamdlhbgaaGreat
open Go Go.RowKit
/-! an operation of a chain that makes a block -/
theorem tflow_alloc {P : Program} {ops : Array Oper} {w0 : World} {fin : Act → World → Prop} {o : Oper} {rest : List Oper} {A : Act} {W : World} {ob : Obj} {v : Value} (hw : Region.wanted o (yielded ops A.tmps) = true) (h : (execOp A.eval o).run P W = .ok (.value v) (W.alloc ob)) (hS : Since w0 W)
    (hr : ∀ W', W' = W.alloc ob → Since w0 W' → TFlow P ops (Since w0) fin rest (A.put o.dst v) W') : TFlow P ops (Since w0) fin (o :: rest) A W :=
  tflow_new hw h (since_alloc _ hS) (hr _ rfl (since_alloc _ hS))
end Go.Proofs.YtfkmkpamdlhbgaaGreat
