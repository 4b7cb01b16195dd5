/- Parts of the proof: walks of functions and plain laws. -/
import Derived.Test.YtomnaabadohecaaP8
import Derived.Test.YtomnaabadohecaaP5
import Derived.Test.YtomnaabadohecaaP0
import Derived.Test.YtomnaabadohecaaP6
namespace Go.Proofs.Ytomnaabadohecaa
open Go.RowKit
/-! edges: rows of four integers -/
abbrev Ed := Int × Int × Int × Int
def encD (e : Ed) : List Value := [.int .i64 e.1, .int .i64 e.2.1, .int .i64 e.2.2.1, .int .i64 e.2.2.2]
theorem edge_info : (Try.prog.info? 67).map (fun i => (i.zero, i.size, i.bytes)) = some (some (.agg #[.int .i64 0, .int .i64 0, .int .i64 0, .int .i64 0]), 4, 32) := by kernel_rfl
def OwnD (w : World) (base : Nat) (v : Value) (xs : List Ed) : Prop := w.ownsRow base 67 4 v xs.length (xs.flatMap encD)
theorem encD_len (xs : List Ed) : (xs.flatMap encD).length = xs.length * 4 := by
  induction xs with
  | nil => rfl
  | cons x xs ih => simp [encD, ih]; omega
theorem encD_get : ∀ {xs : List Ed} {k : Nat} {x : Ed}, xs[k]? = some x → (xs.flatMap encD)[k * 4]? = some (.int .i64 x.1) ∧ (xs.flatMap encD)[k * 4 + 1]? = some (.int .i64 x.2.1) ∧ (xs.flatMap encD)[k * 4 + 2]? = some (.int .i64 x.2.2.1) ∧ (xs.flatMap encD)[k * 4 + 3]? = some (.int .i64 x.2.2.2)
  | [], _, _, h => by simp at h
  | y :: xs, 0, x, h => by simp at h; subst h; simp [encD]
  | y :: xs, k + 1, x, h => by
    obtain ⟨h1, h2, h3, h4⟩ := encD_get (xs := xs) (k := k) (x := x) (by simpa using h)
    have e : ∀ j, ((y :: xs).flatMap encD)[(k + 1) * 4 + j]? = (xs.flatMap encD)[k * 4 + j]? := fun j => by
      rw [List.flatMap_cons, List.getElem?_append_right (by simp [encD]; omega)]
      congr 1
      simp [encD]; omega
    exact ⟨(e 0).trans h1, (e 1).trans h2, (e 2).trans h3, (e 3).trans h4⟩
theorem OwnD.keep {w w' : World} {base : Nat} {v : Value} {xs : List Ed} (h : OwnD w base v xs) (hb : Since w w') : OwnD w' base v xs := ownsRow_stable h fun k hk => hb.below.block k (World.ownsRow.lt h k (by simpa using hk)).2
theorem OwnD.mono {w : World} {base base' : Nat} {v : Value} {xs : List Ed} (h : OwnD w base v xs) (hb : base' ≤ base) : OwnD w base' v xs := ownsRow_mono h hb
theorem ownD_nil (w : World) (base : Nat) : OwnD w base (.slice none 0 0) [] := World.ownsRow_nil w base _ _
/-- a row of edges, for reading -/
def EdgeS (W : World) (v : Value) (xs : List Ed) : Prop := ∃ A c, v = .slice A xs.length c ∧ c ≤ maxLen ∧ xs.length ≤ c ∧ ∀ k x, xs[k]? = some x → ∃ b, A = some ⟨b, 0, none⟩ ∧ W.cell? ⟨b, k * 4, none⟩ = some (.int .i64 x.1) ∧ W.cell? ⟨b, k * 4 + 1, none⟩ = some (.int .i64 x.2.1) ∧ W.cell? ⟨b, k * 4 + 2, none⟩ = some (.int .i64 x.2.2.1) ∧ W.cell? ⟨b, k * 4 + 3, none⟩ = some (.int .i64 x.2.2.2)
theorem OwnD.read {w : World} {base : Nat} {v : Value} {xs : List Ed} (h : OwnD w base v xs) : EdgeS w v xs := by
  have h' := h
  rcases h.2 with ⟨rfl, hn⟩ | ⟨g, cap, cur, rfl, hb, hg, hnc, hcm, hsz, htk⟩
  · have : xs = [] := List.eq_nil_of_length_eq_zero hn
    subst this
    exact ⟨none, 0, rfl, Nat.zero_le _, Nat.le_refl _, fun k x hk => by simp at hk⟩
  · refine ⟨_, cap, rfl, hcm, hnc, fun k x hk => ⟨g, rfl, ?_⟩⟩
    obtain ⟨h1, h2, h3, h4⟩ := encD_get hk
    have hkl := lt_of_get hk
    exact ⟨by rw [World.ownsRow.cellAt (cap := cap) h' _ (by omega)]; exact h1, by rw [World.ownsRow.cellAt (cap := cap) h' _ (by omega)]; exact h2, by rw [World.ownsRow.cellAt (cap := cap) h' _ (by omega)]; exact h3, by rw [World.ownsRow.cellAt (cap := cap) h' _ (by omega)]; exact h4⟩
theorem app_edge {w w0 : World} {ops : Array Oper} {rest : List Oper} {o : Oper} {a : Act} {Q : Exit → Act → World → Prop} (hgd : o.guard = none) (s x : Operand)
    (ho : o.op = .call { callee := .builtin .append, args := #[s, x], argTypes := #[64, 64] }) {v : Value} {xs : List Ed} (hs : a.eval s = v) (h : OwnD w w0.heap.size v xs) (b : Nat) (y : Ed)
    (hx : a.eval x = .slice (some ⟨b, 0, none⟩) 1 1) (hc0 : w.cell? ⟨b, 0, none⟩ = some (.int .i64 y.1)) (hc1 : w.cell? ⟨b, 1, none⟩ = some (.int .i64 y.2.1)) (hc2 : w.cell? ⟨b, 2, none⟩ = some (.int .i64 y.2.2.1)) (hc3 : w.cell? ⟨b, 3, none⟩ = some (.int .i64 y.2.2.2)) (hl : xs.length + 1 ≤ 1000000) (hsn : Since w0 w)
    (k : ∀ g cap w', OwnD w' w0.heap.size (.slice (some ⟨g, 0, none⟩) (xs.length + 1) cap) (xs ++ [y]) → Since w0 w' → wpList Try.prog ops Q rest (a.put o.dst (.slice (some ⟨g, 0, none⟩) (xs.length + 1) cap)) w') : wpList Try.prog ops Q (o :: rest) a w := by
  obtain ⟨i0, hi, hz0, hz1, hz2⟩ := info_parts edge_info
  refine wpList_append_lies w hgd s x 64 ho w0.heap.size 67 i0 _ 4 32 Try.underlying64 hi hz0 hz1 hz2 rfl (by decide) v xs.length (xs.flatMap encD) hs h ⟨b, 0, none⟩ 1 1 (encD y) hx rfl
    (by
      intro j u hj
      rw [Go.Addr.add_lit, Nat.zero_add]
      match j, hj with
      | 0, hj => simp [encD] at hj; subst hj; exact hc0
      | 1, hj => simp [encD] at hj; subst hj; exact hc1
      | 2, hj => simp [encD] at hj; subst hj; exact hc2
      | 3, hj => simp [encD] at hj; subst hj; exact hc3
      | j + 4, hj => simp [encD] at hj) (by simp [encD, Value.oneCell']) (by omega) (by unfold maxLen; omega) (by omega) hsn.below.size w.heap.size rfl ?_
  intro g cap w' h1 h2 h3 h4
  refine k g cap w' ?_ (Below.grown hsn h2 hsn.below.size (fun q hq => (World.ownsRow.lt h q hq).1))
  unfold OwnD
  simpa using h1
def PredD (w0 : World) (fid : FuncId) (caps : Array Value) (p : Ed → Bool) (xs : List Ed) : Prop :=
  ∀ x ∈ xs, ∀ w, Since w0 w → Calls Try.prog fid (#[.agg #[.int .i64 x.1, .int .i64 x.2.1, .int .i64 x.2.2.1, .int .i64 x.2.2.2]] ++ caps) w fun e w' => e = .returned (.bool (p x)) ∧ Below w.heap.size w w'
def didx (p : Ed → Bool) (xs : List Ed) : Int := match xs.findIdx? p with | some i => (i : Int) | none => -1
theorem didx_none {p : Ed → Bool} {xs : List Ed} (h : xs.any p = false) : didx p xs = -1 := by
  have : xs.findIdx? p = none := by
    rw [List.findIdx?_eq_none_iff]
    intro x hx
    rw [List.any_eq_false] at h
    simpa using h x hx
  simp [didx, this]
theorem didx_found {p : Ed → Bool} {xs : List Ed} {k : Nat} {x : Ed} (hx : xs[k]? = some x) (hp : p x = true) (h : (xs.take k).any p = false) : didx p xs = k := by
  have : xs.findIdx? p = some k := by
    obtain ⟨hk, rfl⟩ := List.getElem?_eq_some_iff.1 hx
    rw [List.findIdx?_eq_some_iff_getElem]
    refine ⟨hk, hp, fun j hj => ?_⟩
    rw [List.any_eq_false] at h
    have := h xs[j] (List.mem_take_iff_getElem.2 ⟨j, by omega, rfl⟩)
    simpa using this
  simp [didx, this]
theorem didx_any (p : Ed → Bool) (xs : List Ed) : decide (0 ≤ didx p xs) = xs.any p := by
  unfold didx
  cases h : xs.findIdx? p with
  | none =>
    rw [List.findIdx?_eq_none_iff] at h
    have : xs.any p = false := by rw [List.any_eq_false]; intro x hx; simp [h x hx]
    rw [this]; rfl
  | some i =>
    rw [List.findIdx?_eq_some_iff_getElem] at h
    obtain ⟨hi, hp, -⟩ := h
    have : xs.any p = true := List.any_eq_true.2 ⟨_, List.getElem_mem hi, hp⟩
    rw [this]; simp
theorem any_snocD {p : Ed → Bool} {xs : List Ed} {k : Nat} {x : Ed} (hx : xs[k]? = some x) (h : (xs.take k).any p = false) (hp : p x = false) : (xs.take (k + 1)).any p = false := by
  rw [take_snoc hx, List.any_append, h]
  simp [hp]
set_option maxHeartbeats 4000000 in
theorem indexFuncD_any (v : Value) (xs : List Ed) (fid : FuncId) (caps : Array Value) (p : Ed → Bool) (w : World) (h : EdgeS w v xs) (henter : ∀ args w, (callFunc fid args).run Try.prog w = .ok (.enter fid args) w) (hp : PredD w fid caps p xs) :
    Calls Try.prog 64 #[v, .func (.func fid) #[] caps] w fun e w' => e = .returned (.int .i64 (didx p xs)) ∧ Below w.heap.size w w' := by
  have H := Lib.hid h
  obtain ⟨A, c, rfl, hm, hlc, hA⟩ := h
  unfold maxLen at hm
  have HA := Lib.hid hA
  clear hA
  have Hp := Lib.hid hp
  have eg := henter
  clear hp
  go_enter Try.func64, Try.ntmps64
  go_wp2
  go_loopw [8] (fun i wr => ∃ k : Nat, k ≤ xs.length ∧ i = .int .i64 k ∧ (xs.take k).any p = false ∧ Since w wr) (fun i _ => xs.length - (intOf i).toNat)
  case atStart => exact ⟨0, Nat.zero_le _, rfl, rfl, since_refl _⟩
  case round =>
    obtain ⟨k, hk, rfl, hany, hb⟩ := hrel
    have Hany := Lib.hid hany
    have Hb := Lib.hid hb
    clear hany hb
    by_cases hlt : k < xs.length
    · obtain ⟨x, hx⟩ := getx xs k hlt
      obtain ⟨b, rfl, hc0, hc1, hc2, hc3⟩ := HA.out k x hx
      have d0 := Hb.out.cell hc0
      have d1 := Hb.out.cell hc1
      have d2 := Hb.out.cell hc2
      have d3 := Hb.out.cell hc3
      have Hx := Lib.hid hx
      clear hx hc0 hc1 hc2 hc3
      obtain ⟨y, hy⟩ : ∃ y, y = p x := ⟨_, rfl⟩
      have Hy := Lib.hid hy
      have hcall := Hp.out x (List.mem_of_getElem? Hx.out) _ Hb.out
      rw [← hy] at hcall
      have Hcall := Lib.hid hcall
      clear hy hcall
      go_wp2_with fail
      refine Hcall.out.mono ?_
      rintro e w1 ⟨rfl, hb1⟩
      have Hb1 := Lib.hid (Hb.out.trans hb1)
      clear hb1
      cases y
      · go_wp2
        go_roundw
        case rel => exact ⟨k + 1, by omega, by go_num, any_snocD Hx.out Hany.out Hy.out.symm, Hb1.out⟩
        case measure => simp [intOf]; omega
      · have Hr : Hid (didx p xs = k) := didx_found Hx.out Hy.out.symm Hany.out
        go_wp2
        go_ret
        exact ⟨congrArg (fun i => Ending.returned (.int .i64 i)) Hr.out.symm, Hb1.out⟩
    · obtain rfl : k = xs.length := by omega
      have Hr : Hid (didx p xs = -1) := didx_none (by have := Hany.out; rwa [List.take_length] at this)
      go_wp2
      go_ret
      exact ⟨congrArg (fun i => Ending.returned (.int .i64 i)) Hr.out.symm, Hb.out⟩
theorem containsFuncD_any (v : Value) (xs : List Ed) (fid : FuncId) (caps : Array Value) (p : Ed → Bool) (w : World) (h : EdgeS w v xs) (henter : ∀ args w, (callFunc fid args).run Try.prog w = .ok (.enter fid args) w) (hp : PredD w fid caps p xs) :
    Calls Try.prog 46 #[v, .func (.func fid) #[] caps] w fun e w' => e = .returned (.bool (xs.any p)) ∧ Below w.heap.size w w' := by
  have hi := Lib.hid (indexFuncD_any v xs fid caps p w h henter hp)
  have He := Lib.hid (didx_any p xs)
  obtain ⟨A, c, rfl, hm, hlc, hA⟩ := h
  go_enter Try.func46, Try.ntmps46
  go_wp2_with fail
  refine hi.out.mono ?_
  rintro e w1 ⟨rfl, hb⟩
  have Hb := Lib.hid hb
  clear hb
  go_wp2
  go_ret
  exact ⟨congrArg (fun b => Ending.returned (.bool b)) He.out, Hb.out⟩
end Go.Proofs.Ytomnaabadohecaa
namespace Go.Proofs.Ytomnaabadohecaa
open Go.RowKit
def keepE (v i : Nat) (e : Int × Int) : Bool := decide ((v : Int) < e.1) || (((v : Int) == e.1) && decide ((i : Int) ≤ e.2))
def eone (v i : Nat) (e : Int × Int) : List Ed := if keepE v i e then [((v : Int), (i : Int), e.1, e.2)] else []
def erow (v : Nat) (es : List (Int × Int)) (i : Nat) : List Ed := (List.range i).flatMap fun j => eone v j (es.getD j (0, 0))
def rowOf (n : Net) (u : Nat) : List (Int × Int) := n.ends.getD u []
def edgesTo (n : Net) (v : Nat) : List Ed := (List.range v).flatMap fun u => erow u (rowOf n u) (rowOf n u).length
def edgesB (n : Net) : List Ed := edgesTo n n.ends.length
theorem erow_succ (v : Nat) (es : List (Int × Int)) (i : Nat) : erow v es (i + 1) = erow v es i ++ eone v i (es.getD i (0, 0)) := by
  unfold erow
  rw [List.range_succ, List.flatMap_append]
  simp
theorem edgesTo_succ (n : Net) (v : Nat) : edgesTo n (v + 1) = edgesTo n v ++ erow v (rowOf n v) (rowOf n v).length := by
  unfold edgesTo
  rw [List.range_succ, List.flatMap_append]
  simp
theorem erow_len (v : Nat) (es : List (Int × Int)) (i : Nat) : (erow v es i).length ≤ i := by
  induction i with
  | zero => simp [erow]
  | succ i ih =>
    rw [erow_succ, List.length_append]
    have : (eone v i (es.getD i (0, 0))).length ≤ 1 := by unfold eone; split <;> simp
    omega
theorem edgesTo_len {n : Net} (hn : netOk n = true) (v : Nat) : (edgesTo n v).length ≤ 6 * v := by
  induction v with
  | zero => simp [edgesTo]
  | succ v ih =>
    rw [edgesTo_succ, List.length_append]
    have h1 := erow_len v (rowOf n v) (rowOf n v).length
    have h2 : (rowOf n v).length ≤ 6 := by
      unfold rowOf
      rw [List.getD_eq_getElem?_getD]
      cases h : n.ends[v]? with
      | none => simp
      | some es => exact (netOk_row hn h).1
    omega
theorem mem_edges {n : Net} {e : Ed} : e ∈ edgesB n ↔ ∃ v i, v < n.ends.length ∧ i < (rowOf n v).length ∧ keepE v i ((rowOf n v).getD i (0, 0)) = true ∧ e = ((v : Int), (i : Int), ((rowOf n v).getD i (0, 0)).1, ((rowOf n v).getD i (0, 0)).2) := by
  unfold edgesB edgesTo erow
  simp only [List.mem_flatMap, List.mem_range]
  constructor
  · rintro ⟨v, hv, i, hi, he⟩
    unfold eone at he
    split at he
    · rename_i hk
      exact ⟨v, i, hv, hi, hk, by simpa using he⟩
    · simp at he
  · rintro ⟨v, i, hv, hi, hk, rfl⟩
    exact ⟨v, hv, i, hi, by unfold eone; rw [if_pos hk]; simp⟩
theorem getD_mem' {xs : List (Int × Int)} {i : Nat} (h : i < xs.length) : xs.getD i (0, 0) ∈ xs := by
  have e : xs.getD i (0, 0) = xs[i] := by simp [h]
  rw [e]
  exact List.getElem_mem h
def pLoop (e : Ed) : Bool := e.1 == e.2.2.1
def plainB (n : Net) : Bool := (List.range n.ends.length).all fun v => !hasB (bsee n (v : Int)) (v : Int)
theorem loops_plain {n : Net} (hn : netOk n = true) : (edgesB n).any pLoop = !plainB n := by
  rw [Bool.eq_iff_iff]
  unfold plainB
  rw [Bool.not_eq_true', ← Bool.not_eq_true, List.all_eq_true, List.any_eq_true]
  constructor
  · rintro ⟨e, he, hp⟩ hall
    obtain ⟨v, i, hv, hi, hk, rfl⟩ := mem_edges.1 he
    have := hall v (List.mem_range.2 hv)
    unfold pLoop at hp
    simp only [beq_iff_eq] at hp
    have hm : hasB (bsee n (v : Int)) (v : Int) = true := by
      unfold hasB bsee
      rw [List.contains_iff_mem, Int.toNat_natCast]
      exact List.mem_map.2 ⟨(rowOf n v).getD i (0, 0), getD_mem' hi, hp.symm⟩
    rw [hm] at this
    cases this
  · intro hnall
    obtain ⟨v, hv⟩ := Classical.not_forall.1 hnall
    obtain ⟨hv1, hv2⟩ := Classical.not_imp.1 hv
    have hv1 := List.mem_range.1 hv1
    have hm : hasB (bsee n (v : Int)) (v : Int) = true := by simpa using hv2
    unfold hasB bsee at hm
    rw [List.contains_iff_mem, Int.toNat_natCast] at hm
    obtain ⟨e, he, hev⟩ := List.mem_map.1 hm
    obtain ⟨i, hi, hie⟩ := List.getElem_of_mem he
    have hi' : i < (rowOf n v).length := hi
    have hgd : (rowOf n v).getD i (0, 0) = e := by
      have : (rowOf n v).getD i (0, 0) = (rowOf n v)[i] := by simp [hi']
      rw [this]
      exact hie
    have hp : hasPortB n.ends (v : Int) (i : Int) = true := by
      unfold hasPortB
      rw [Bool.and_eq_true]
      refine ⟨inB_iff.2 (by omega), inB_iff.2 ?_⟩
      rw [Int.toNat_natCast]
      have : i < (n.ends.getD v []).length := hi'
      omega
    obtain ⟨hq1, hq2⟩ := netOk_end hn hp
    have hat : endAt n.ends (v : Int) (i : Int) = e := by
      unfold endAt
      rw [Int.toNat_natCast, Int.toNat_natCast]
      exact hgd
    rw [hat] at hq1 hq2
    rw [hev] at hq1 hq2
    unfold hasPortB at hq1
    rw [Bool.and_eq_true] at hq1
    have hb := inB_iff.1 hq1.2
    rw [Int.toNat_natCast] at hb
    obtain ⟨p, hpe⟩ := Int.eq_ofNat_of_zero_le hb.1
    rw [hpe] at hq2 hb
    have hpl : p < (rowOf n v).length := by
      show p < (n.ends.getD v []).length
      omega
    have hat2 : (rowOf n v).getD p (0, 0) = ((v : Int), (i : Int)) := by
      unfold endAt at hq2
      rw [Int.toNat_natCast, Int.toNat_natCast] at hq2
      exact hq2
    by_cases hle : i ≤ p
    · refine ⟨_, mem_edges.2 ⟨v, i, hv1, hi', ?_, rfl⟩, ?_⟩
      · rw [hgd]
        unfold keepE
        rw [hev, hpe]
        simp [hle]
      · show ((v : Int) == ((rowOf n v).getD i (0, 0)).1) = true
        rw [hgd, hev]
        simp
    · refine ⟨_, mem_edges.2 ⟨v, p, hv1, hpl, ?_, rfl⟩, ?_⟩
      · rw [hat2]
        unfold keepE
        simp
        omega
      · show ((v : Int) == ((rowOf n v).getD p (0, 0)).1) = true
        rw [hat2]
        simp
end Go.Proofs.Ytomnaabadohecaa
namespace Go.Proofs.Ytomnaabadohecaa
open Go.RowKit
set_option maxRecDepth 100000 in
set_option maxHeartbeats 4000000 in
theorem edges_any (ve vi vn : Value) (n : Net) (w : World) (h : NetIn w ve vi vn n) (hn : netOk n = true) :
    Calls Try.prog 42 #[.agg #[ve, vi, vn]] w fun e w' => ∃ u, e = .returned u ∧ OwnD w' w.heap.size u (edgesB n) ∧ Below w.heap.size w w' := by
  have hn40 := (netOk_len hn).2
  obtain ⟨w0, hw0⟩ : ∃ w0, w0 = (w).alloc (.cells #[ve, vi, vn] 31) := ⟨_, rfl⟩
  have hb0 : Below w.heap.size w w0 := by rw [hw0]; exact ((Below.refl _ _).alloc (by simp) _)
  have H := Lib.hid (h.keep hb0)
  obtain ⟨h1, h2, h3⟩ := h.keep hb0
  obtain ⟨A, c, rfl, hlc, hm, hA⟩ := h1
  obtain ⟨A2, c2, rfl, _, hm2, _⟩ := h2
  obtain ⟨A3, c3, rfl, _, hm3, _⟩ := h3
  unfold maxLen at hm hm2 hm3
  have p00 : ∀ W, Since w0 W → W.cell? ⟨w.heap.size, 0, none⟩ = some (.slice A n.ends.length c) := have_cell (by rw [hw0]; simp)
  have p01 : ∀ W, Since w0 W → W.cell? ⟨w.heap.size, 1, none⟩ = some (.slice A2 n.ids.length c2) := have_cell (by rw [hw0]; simp)
  have p02 : ∀ W, Since w0 W → W.cell? ⟨w.heap.size, 2, none⟩ = some (.slice A3 n.inputs.length c3) := have_cell (by rw [hw0]; simp)
  have Hb0 := Lib.hid hb0
  have Hw0 := Lib.hid hw0
  have HA := Lib.hid hA
  clear hA h
  clear hb0 hw0
  have Hn := Lib.hid hn
  have hs0 : Since w0 w0 := since_refl _
  clear hn
  go_enter Try.func42, Try.ntmps42
  go_upto_region 1 with (fail)
  rw [← Hw0.out]
  go_wp2
  go_loopw [3, 11] (fun u i wr => ∃ k : Nat, k ≤ n.ends.length ∧ i = .int .i64 k ∧ OwnD wr w0.heap.size u (edgesTo n k) ∧ Since w0 wr) (fun _ i _ => n.ends.length - (intOf i).toNat)
  case atStart => exact ⟨0, Nat.zero_le _, rfl, by simpa [edgesTo] using ownD_nil _ w0.heap.size, hs0⟩
  case round =>
    obtain ⟨k, hk, rfl, ho, hs⟩ := hrel
    have Ho := Lib.hid ho
    have Hs := Lib.hid hs
    clear hs0 ho hs
    by_cases hlt : k < n.ends.length
    · obtain ⟨es, hes⟩ := getx n.ends k hlt
      obtain ⟨hes6, -⟩ := netOk_row Hn.out hes
      have Hrow : Hid (rowOf n k = es) := by show _ = _; rw [rowOf, List.getD_eq_getElem?_getD, hes]; rfl
      obtain ⟨b, offr, cr, ur, hA1, hkr, hc1, hrow⟩ := row_at H.out.es hes
      cases hA1
      obtain ⟨A1, z1, rfl, hz1, hz2, hA1⟩ := hrow
      unfold maxLen at hz2
      have HA1 := Lib.hid hA1
      have r1 := lift_cell (have_cell hc1) Hs.out
      have q5 := r1 wr (since_refl _)
      have q0 := p00 wr Hs.out
      have hel := edgesTo_len Hn.out k
      have Hel := Lib.hid hel
      clear hes hc1 hA1 hel
      go_wp2
      go_loopw [3, 18] (fun u i wr => ∃ j : Nat, j ≤ es.length ∧ i = .int .i64 j ∧ OwnD wr w0.heap.size u (edgesTo n k ++ erow k es j) ∧ Since w0 wr) (fun _ i _ => es.length - (intOf i).toNat)
      case atStart => exact ⟨0, Nat.zero_le _, rfl, by simpa [erow] using Ho.out, Hs.out⟩
      case round =>
        obtain ⟨j, hj, rfl, ho, hs⟩ := hrel
        have Ho2 := Lib.hid ho
        have Hs2 := Lib.hid hs
        clear ho hs
        by_cases hlj : j < es.length
        · obtain ⟨⟨x1, x2⟩, hx⟩ := getx es j hlj
          obtain ⟨b1, off1, rfl, hd1, hd2⟩ := HA1.out j _ hx
          have t1 := have_cell hd1 wr Hs2.out
          have t2 := have_cell hd2 wr Hs2.out
          have Hgd : Hid (es.getD j (0, 0) = (x1, x2)) := getD_of hx
          obtain ⟨w8, hw8⟩ : ∃ w8, w8 = wr.alloc (.cells #[.int .i64 x1, .int .i64 x2] 56) := ⟨_, rfl⟩
          obtain ⟨be, hbe⟩ : ∃ be, be = wr.heap.size := ⟨_, rfl⟩
          have d0 : ∀ W, Since w8 W → W.cell? ⟨be, 0, none⟩ = some (.int .i64 x1) := have_cell (by rw [hw8, hbe]; simp)
          have d1 : ∀ W, Since w8 W → W.cell? ⟨be, 1, none⟩ = some (.int .i64 x2) := have_cell (by rw [hw8, hbe]; simp)
          have Ho8 : Hid (OwnD w8 w0.heap.size u3 (edgesTo n k ++ erow k es j)) := by rw [hw8]; exact Ho2.out.keep (since_alloc _ (since_refl _))
          have Hs8 : Hid (Since w0 w8) := by rw [hw8]; exact since_alloc _ Hs2.out
          have Hw8 := Lib.hid hw8
          have Hbe := Lib.hid hbe
          have m3 : IntKind.i64.wrap ((j : Int) + 1) = (j : Int) + 1 := wr64 _ (by omega) (by omega)
          clear hx hd1 hd2 hw8 hbe
          go_upto_region 8 with (fail)
          rw [← Hw8.out, ← Hbe.out]
          clear t1 t2
          refine wp_region_flow0 16 (Since w8) (since_refl _) ?_
          simp only [List.take_succ_cons, List.take_zero, List.drop_succ_cons, List.drop_zero]
          refine flow_val (v := ?_) rfl ?_ ?_; rotate_left; (intro W hW; go_simp; with_reducible rfl)
          simp only [Act.put, List.setIfInBounds_toArray, List.set_cons_succ, List.set_cons_zero]
          refine flow_val (v := ?_) rfl ?_ ?_; rotate_left; (intro W hW; go_simp; with_reducible rfl)
          simp only [Act.put, List.setIfInBounds_toArray, List.set_cons_succ, List.set_cons_zero]
          refine flow_val (v := ?_) rfl ?_ ?_; rotate_left; (intro W hW; go_simp; with_reducible rfl)
          simp only [Act.put, List.setIfInBounds_toArray, List.set_cons_succ, List.set_cons_zero]
          refine flow_val (v := ?_) rfl ?_ ?_; rotate_left; (intro W hW; go_simp; with_reducible rfl)
          simp only [Act.put, List.setIfInBounds_toArray, List.set_cons_succ, List.set_cons_zero]
          refine flow_val (v := ?_) rfl ?_ ?_; rotate_left; (intro W hW; go_simp; with_reducible rfl)
          simp only [Act.put, List.setIfInBounds_toArray, List.set_cons_succ, List.set_cons_zero]
          refine flow_gval (v := ?_) rfl rfl ?_ ?_; rotate_left; (intro hb; intro W hW; go_simp; with_reducible rfl)
          simp only [Act.put, List.setIfInBounds_toArray, List.set_cons_succ, List.set_cons_zero]
          refine flow_gval (v := ?_) rfl rfl ?_ ?_; rotate_left; (intro hb; intro W hW; go_simp; with_reducible rfl)
          simp only [Act.put, List.setIfInBounds_toArray, List.set_cons_succ, List.set_cons_zero]
          refine flow_gval (v := ?_) rfl rfl ?_ ?_; rotate_left; (intro hb; intro W hW; go_simp; with_reducible rfl)
          simp only [Act.put, List.setIfInBounds_toArray, List.set_cons_succ, List.set_cons_zero]
          refine flow_gval (v := ?_) rfl rfl ?_ ?_; rotate_left; (intro hb; intro W hW; go_simp; with_reducible rfl)
          simp only [Act.put, List.setIfInBounds_toArray, List.set_cons_succ, List.set_cons_zero]
          refine flow_gval (v := ?_) rfl rfl ?_ ?_; rotate_left; (intro hb; intro W hW; go_simp; with_reducible rfl)
          simp only [Act.put, List.setIfInBounds_toArray, List.set_cons_succ, List.set_cons_zero]
          refine flow_gval2 (v := ?_) rfl rfl ?_ ?_; rotate_left; (intro hb hb2; intro W hW; go_simp; with_reducible rfl)
          simp only [Act.put, List.setIfInBounds_toArray, List.set_cons_succ, List.set_cons_zero]
          refine flow_gval2 (v := ?_) rfl rfl ?_ ?_; rotate_left; (intro hb hb2; intro W hW; go_simp; with_reducible rfl)
          simp only [Act.put, List.setIfInBounds_toArray, List.set_cons_succ, List.set_cons_zero]
          refine flow_gval2 (v := ?_) rfl rfl ?_ ?_; rotate_left; (intro hb hb2; intro W hW; go_simp; with_reducible rfl)
          simp only [Act.put, List.setIfInBounds_toArray, List.set_cons_succ, List.set_cons_zero]
          refine flow_gval2 (v := ?_) rfl rfl ?_ ?_; rotate_left; (intro hb hb2; intro W hW; go_simp; with_reducible rfl)
          simp only [Act.put, List.setIfInBounds_toArray, List.set_cons_succ, List.set_cons_zero]
          refine flow_gand rfl rfl rfl ?_
          simp only [Act.put, List.setIfInBounds_toArray, List.set_cons_succ, List.set_cons_zero]
          first | refine flow_or rfl rfl ?_ | (refine flow_val (v := ?_) rfl ?_ ?_; rotate_left; (intro W hW; go_simp; with_reducible rfl))
          simp only [Act.put, List.setIfInBounds_toArray, List.set_cons_succ, List.set_cons_zero]
          intro W hW
          have HsW := Lib.hid (Hs8.out.after hW)
          have HoW := Lib.hid (Ho8.out.keep hW)
          have c0 := d0 W hW
          have c1 := d1 W hW
          have Hlen : Hid ((edgesTo n k ++ erow k es j).length + 1 ≤ 1000000) := by
            have h1 := Hel.out
            have h2 := erow_len k es j
            show _ ≤ _
            rw [List.length_append]
            omega
          have Hnx : Hid (edgesTo n k ++ erow k es (j + 1) = (edgesTo n k ++ erow k es j) ++ eone k j (x1, x2)) := by show _ = _; rw [erow_succ, Hgd.out, List.append_assoc]
          cases hg : (decide ((k : Int) < x1) || ((k : Int) == x1 && decide ((j : Int) ≤ x2)))
          · have Hno : Hid (eone k j (x1, x2) = []) := by show _ = _; unfold eone; rw [if_neg]; rw [show keepE k j (x1, x2) = false from hg]; simp
            clear hg hW d0 d1 c0 c1
            go_wp2
            go_roundw
            case rel => exact ⟨j + 1, by omega, by go_num, by rw [Hnx.out, Hno.out, List.append_nil]; exact HoW.out, HsW.out⟩
            case measure => simp [intOf]; omega
          · have Hyes : Hid (eone k j (x1, x2) = [((k : Int), (j : Int), x1, x2)]) := by show _ = _; unfold eone; rw [if_pos (show keepE k j (x1, x2) = true from hg)]
            clear hg hW d0 d1
            go_wp2_with (at_builtin; refine app_edge rfl _ _ rfl rfl (HoW.out.keep (since_alloc _ (since_refl _))) W.heap.size ((k : Int), (j : Int), x1, x2) rfl (by simp [go_sem]) (by simp [go_sem]) (by simp [go_sem]) (by simp [go_sem]) Hlen.out (since_alloc _ HsW.out) ?_; intro g9 c9 w9 ho9 hs9)
            have Ho9 := Lib.hid ho9
            have Hs9 := Lib.hid hs9
            clear ho9 hs9 c0 c1
            go_wp2
            go_roundw
            case rel => exact ⟨j + 1, by omega, by go_num, by rw [Hnx.out, Hyes.out]; have := Ho9.out; first | exact this | (rw [List.length_append] at this; exact this), Hs9.out⟩
            case measure => simp [intOf]; omega
        · obtain rfl : j = es.length := by omega
          have Hnx : Hid (edgesTo n (k + 1) = edgesTo n k ++ erow k es es.length) := by show _ = _; rw [edgesTo_succ, Hrow.out]
          have m3 : IntKind.i64.wrap ((k : Int) + 1) = (k : Int) + 1 := wr64 _ (by omega) (by omega)
          go_wp2
          go_roundw
          case rel => exact ⟨k + 1, by omega, by go_num, by rw [Hnx.out]; exact Ho2.out, Hs2.out⟩
          case measure => simp [intOf]; omega
    · obtain rfl : k = n.ends.length := by omega
      go_wp2
      go_ret
      exact ⟨_, rfl, Ho.out.mono Hb0.out.size, Since.after Hb0.out Hs.out⟩
end Go.Proofs.Ytomnaabadohecaa
namespace Go.Proofs.Ytomnaabadohecaa
open Go.RowKit
/-! forests: edges, nodes and components -/
inductive Con (E : List (Nat × Nat)) (a : Nat) : Nat → Prop
  | refl : Con E a a
  | step {b c : Nat} : Con E a b → ((b, c) ∈ E ∨ (c, b) ∈ E) → Con E a c
theorem Con.trans {E : List (Nat × Nat)} {a b c : Nat} (h : Con E a b) (k : Con E b c) : Con E a c := by
  induction k with
  | refl => exact h
  | step _ hs ih => exact ih.step hs
theorem Con.one {E : List (Nat × Nat)} {a b : Nat} (h : (a, b) ∈ E ∨ (b, a) ∈ E) : Con E a b := Con.refl.step h
theorem Con.symm {E : List (Nat × Nat)} {a b : Nat} (h : Con E a b) : Con E b a := by
  induction h with
  | refl => exact .refl
  | step _ hs ih => exact (Con.one hs.symm).trans ih
theorem Con.sub {E F : List (Nat × Nat)} (hs : ∀ e ∈ E, e ∈ F) {a b : Nat} (h : Con E a b) : Con F a b := by
  induction h with
  | refl => exact .refl
  | step _ k ih => exact ih.step (k.imp (hs _) (hs _))
theorem Con.cons_iff {E : List (Nat × Nat)} {x y a b : Nat} : Con ((a, b) :: E) x y ↔ Con E x y ∨ (Con E x a ∧ Con E b y) ∨ (Con E x b ∧ Con E a y) := by
  constructor
  · intro h
    induction h with
    | refl => exact .inl .refl
    | @step u v _ k ih =>
      have k' : (u = a ∧ v = b) ∨ (u = b ∧ v = a) ∨ ((u, v) ∈ E ∨ (v, u) ∈ E) := by
        rcases k with k | k
        · rcases List.mem_cons.1 k with e | k
          · cases e; exact .inl ⟨rfl, rfl⟩
          · exact .inr (.inr (.inl k))
        · rcases List.mem_cons.1 k with e | k
          · cases e; exact .inr (.inl ⟨rfl, rfl⟩)
          · exact .inr (.inr (.inr k))
      rcases k' with ⟨rfl, rfl⟩ | ⟨rfl, rfl⟩ | k'
      · rcases ih with ih | ⟨i1, i2⟩ | ⟨i1, i2⟩
        · exact .inr (.inl ⟨ih, .refl⟩)
        · exact .inr (.inl ⟨i1, .refl⟩)
        · exact .inl i1
      · rcases ih with ih | ⟨i1, i2⟩ | ⟨i1, i2⟩
        · exact .inr (.inr ⟨ih, .refl⟩)
        · exact .inl i1
        · exact .inr (.inr ⟨i1, .refl⟩)
      · rcases ih with ih | ⟨i1, i2⟩ | ⟨i1, i2⟩
        · exact .inl (ih.step k')
        · exact .inr (.inl ⟨i1, i2.step k'⟩)
        · exact .inr (.inr ⟨i1, i2.step k'⟩)
  · have s : ∀ {u v}, Con E u v → Con ((a, b) :: E) u v := fun h => h.sub fun e he => List.mem_cons_of_mem _ he
    have e : Con ((a, b) :: E) a b := Con.one (.inl (by simp))
    rintro (h | ⟨h1, h2⟩ | ⟨h1, h2⟩)
    · exact s h
    · exact (s h1).trans (e.trans (s h2))
    · exact (s h1).trans (e.symm.trans (s h2))
def Least (E : List (Nat × Nat)) (v : Nat) : Prop := ∀ u, Con E v u → v ≤ u
theorem least_ex (E : List (Nat × Nat)) : ∀ (k a : Nat), a ≤ k → ∃ m, Con E a m ∧ Least E m := by
  intro k
  induction k with
  | zero => intro a ha; exact ⟨a, .refl, fun u _ => by omega⟩
  | succ k ih =>
    intro a ha
    by_cases h : Least E a
    · exact ⟨a, .refl, h⟩
    · unfold Least at h
      have ⟨u, hu⟩ := Classical.not_forall.1 h
      have ⟨h1, h2⟩ := Classical.not_imp.1 hu
      obtain ⟨m, g1, g2⟩ := ih u (by omega)
      exact ⟨m, h1.trans g1, g2⟩
theorem Least.eq {E : List (Nat × Nat)} {a b : Nat} (ha : Least E a) (hb : Least E b) (h : Con E a b) : a = b := Nat.le_antisymm (ha b h) (hb a h.symm)
open Classical in
noncomputable def parts (E : List (Nat × Nat)) (n : Nat) : Nat := (List.range n).countP fun v => decide (Least E v)
def Inside (E : List (Nat × Nat)) (n : Nat) : Prop := ∀ e ∈ E, e.1 < n ∧ e.2 < n
theorem count_one {n m : Nat} (P Q : Nat → Bool) (hm : m < n) (hq : Q m = true) (h : ∀ v, v < n → P v = (Q v && v != m)) : (List.range n).countP P + 1 = (List.range n).countP Q := by
  induction n with
  | zero => omega
  | succ n ih =>
    rw [List.range_succ, List.countP_append, List.countP_append]
    by_cases he : m = n
    · subst he
      have e1 : (List.range m).countP P = (List.range m).countP Q := by
        apply List.countP_congr
        intro v hv
        have hv' := List.mem_range.1 hv
        rw [h v (by omega)]
        simp; omega
      have e2 : P m = false := by rw [h m (by omega)]; simp
      rw [e1]
      simp [e2, hq]
    · have i := ih (by omega) (fun v hv => h v (by omega))
      have e2 : P n = Q n := by rw [h n (by omega)]; simp; omega
      rw [← i]
      simp [e2]
      omega
open Classical in
theorem parts_same {E : List (Nat × Nat)} {n a b : Nat} (h : Con E a b) : parts ((a, b) :: E) n = parts E n := by
  unfold parts
  apply List.countP_congr
  intro v _
  have : ∀ u, Con ((a, b) :: E) v u ↔ Con E v u := by
    intro u
    rw [Con.cons_iff]
    exact ⟨fun k => by
      rcases k with k | ⟨k1, k2⟩ | ⟨k1, k2⟩
      · exact k
      · exact (k1.trans h).trans k2
      · exact (k1.trans h.symm).trans k2, .inl⟩
  rw [decide_eq_true_eq, decide_eq_true_eq]
  exact forall_congr' fun u => by rw [this]
open Classical in
theorem parts_less {E : List (Nat × Nat)} {n a b : Nat} (h : ¬ Con E a b) (ha : a < n) (hb : b < n) : parts ((a, b) :: E) n + 1 = parts E n := by
  obtain ⟨la, a1, a2⟩ := least_ex E a a (Nat.le_refl _)
  obtain ⟨lb, b1, b2⟩ := least_ex E b b (Nat.le_refl _)
  have hla : la ≤ a := a2 a a1.symm
  have hlb : lb ≤ b := b2 b b1.symm
  have hne : la ≠ lb := fun e => h (a1.trans (by rw [e]; exact b1.symm))
  unfold parts
  refine count_one (m := max la lb) _ _ (by omega) ?_ ?_
  · rcases Nat.le_total la lb with k | k
    · rw [Nat.max_eq_right k]; simpa using b2
    · rw [Nat.max_eq_left k]; simpa using a2
  · intro v _
    rw [Bool.eq_iff_iff]
    simp only [decide_eq_true_eq, Bool.and_eq_true, bne_iff_ne, ne_eq]
    have hj : Con ((a, b) :: E) la lb := Con.cons_iff.2 (.inr (.inl ⟨a1.symm, b1⟩))
    constructor
    · intro hv
      refine ⟨fun u hu => hv u (Con.cons_iff.2 (.inl hu)), fun e => ?_⟩
      rcases Nat.le_total la lb with k | k
      · rw [Nat.max_eq_right k] at e; subst e; have := hv la hj.symm; omega
      · rw [Nat.max_eq_left k] at e; subst e; have := hv lb hj; omega
    · rintro ⟨hv, hm⟩ u hu
      rcases Con.cons_iff.1 hu with k | ⟨k1, k2⟩ | ⟨k1, k2⟩
      · exact hv u k
      · have e := Least.eq hv a2 (k1.trans a1)
        have := b2 u (b1.symm.trans k2)
        omega
      · have e := Least.eq hv b2 (k1.trans b1)
        have := a2 u (a1.symm.trans k2)
        omega
open Classical in
theorem parts_nil (n : Nat) : parts [] n = n := by
  unfold parts
  rw [List.countP_eq_length.2]
  · simp
  · intro v _
    have : Least [] v := by
      intro u hu
      have : ∀ {x y}, Con [] x y → x = y := by
        intro x y h
        induction h with
        | refl => rfl
        | step _ k _ => simp at k
      rw [this hu]
      exact Nat.le_refl _
    simpa using this
theorem parts_ge {E : List (Nat × Nat)} {n : Nat} (h : Inside E n) : n ≤ parts E n + E.length := by
  induction E with
  | nil => rw [parts_nil]; simp
  | cons e E ih =>
    obtain ⟨a, b⟩ := e
    have i := ih fun e he => h e (List.mem_cons_of_mem _ he)
    have hab := h (a, b) (by simp)
    by_cases hc : Con E a b
    · rw [parts_same hc]; simp; omega
    · have := parts_less hc hab.1 hab.2
      simp; omega
open Classical in
theorem parts_perm {E F : List (Nat × Nat)} {n : Nat} (h : ∀ e, e ∈ E ↔ e ∈ F) : parts E n = parts F n := by
  unfold parts
  apply List.countP_congr
  intro v _
  have : ∀ u, Con E v u ↔ Con F v u := fun u => ⟨Con.sub fun e => (h e).1, Con.sub fun e => (h e).2⟩
  rw [decide_eq_true_eq, decide_eq_true_eq]
  exact forall_congr' fun u => by rw [this]
theorem mem_erase_idx {α : Type} {E : List α} {i : Nat} {e : α} (h : E[i]? = some e) (x : α) : x ∈ E ↔ x ∈ e :: E.eraseIdx i := by
  obtain ⟨hl, rfl⟩ := List.getElem?_eq_some_iff.1 h
  rw [List.eraseIdx_eq_take_drop_succ]
  have e : E = E.take i ++ E[i] :: E.drop (i + 1) := by rw [← List.drop_eq_getElem_cons hl, List.take_append_drop]
  have e2 : x ∈ E ↔ x ∈ E.take i ++ E[i] :: E.drop (i + 1) := by rw [← e]
  rw [e2]
  simp only [List.mem_append, List.mem_cons]
  constructor
  · rintro (k | k | k)
    · exact .inr (.inl k)
    · exact .inl k
    · exact .inr (.inr k)
  · rintro (k | k | k)
    · exact .inr (.inl k)
    · exact .inl k
    · exact .inr (.inr k)
/-- all edges are bridges exactly if there are as few as can be -/
theorem forest_iff {E : List (Nat × Nat)} {n : Nat} (h : Inside E n) : parts E n + E.length = n ↔ ∀ (i : Nat) (e : Nat × Nat), E[i]? = some e → ¬ Con (E.eraseIdx i) e.1 e.2 := by
  constructor
  · intro hn i e he hc
    obtain ⟨hl, _⟩ := List.getElem?_eq_some_iff.1 he
    have e1 : parts E n = parts (e :: E.eraseIdx i) n := parts_perm (mem_erase_idx he)
    have e2 := parts_same (n := n) hc
    have e3 := parts_ge (E := E.eraseIdx i) (n := n) fun x hx => h x (List.mem_of_mem_eraseIdx hx)
    rw [List.length_eraseIdx_of_lt hl] at e3
    rw [show (e.1, e.2) = e from rfl] at e2
    omega
  · intro hb
    induction E with
    | nil => rw [parts_nil]; simp
    | cons e E ih =>
      obtain ⟨a, b⟩ := e
      have hab := h (a, b) (by simp)
      have h0 := hb 0 (a, b) rfl
      simp only [List.eraseIdx_cons_zero] at h0
      have i := ih (fun e he => h e (List.mem_cons_of_mem _ he)) fun i e he hc => hb (i + 1) e (by simpa using he) (hc.sub fun x hx => by rw [List.eraseIdx_cons_succ]; exact List.mem_cons_of_mem _ hx)
      have := parts_less h0 hab.1 hab.2
      simp; omega
end Go.Proofs.Ytomnaabadohecaa
namespace Go.Proofs.Ytomnaabadohecaa
open Go.RowKit
/-! the forest test of a network -/
def edE (n : Net) : List (Nat × Nat) := (edgesB n).map fun e => (e.1.toNat, e.2.2.1.toNat)
/-- port i of v leads to f -/
def PortAt (n : Net) (v i : Nat) (f : Int × Int) : Prop := (n.ends.getD v [])[i]? = some f
theorem port_in {n : Net} (hn : netOk n = true) {v i : Nat} {f : Int × Int} (h : PortAt n v i f) : v < n.ends.length ∧ 0 ≤ f.1 ∧ f.1 < n.ends.length ∧ 0 ≤ f.2 ∧ PortAt n f.1.toNat f.2.toNat ((v : Int), (i : Int)) := by
  have hv : v < n.ends.length := by
    rcases Nat.lt_or_ge v n.ends.length with h1 | h1
    · exact h1
    · unfold PortAt at h
      rw [List.getD_eq_getElem?_getD, List.getElem?_eq_none h1] at h
      simp at h
  have hi := lt_of_get h
  have hp : hasPortB n.ends (v : Int) (i : Int) = true := by
    unfold hasPortB
    rw [Bool.and_eq_true, inB_iff, inB_iff]
    simp only [Int.toNat_natCast]
    omega
  have he : endAt n.ends (v : Int) (i : Int) = f := by
    unfold endAt
    simp only [Int.toNat_natCast]
    exact getD_of h
  obtain ⟨h1, h2⟩ := netOk_end hn hp
  rw [he] at h1 h2
  unfold hasPortB at h1
  rw [Bool.and_eq_true, inB_iff, inB_iff] at h1
  refine ⟨hv, h1.1.1, by omega, h1.2.1, ?_⟩
  have hl : f.2.toNat < (n.ends.getD f.1.toNat []).length := by omega
  obtain ⟨y, hy⟩ := getx _ _ hl
  unfold endAt at h2
  rw [getD_of hy] at h2
  unfold PortAt
  rw [hy, h2]
theorem see_port {n : Net} {a b : Nat} : (b : Int) ∈ bsee n (a : Int) ↔ ∃ (i : Nat) (f : Int × Int), PortAt n a i f ∧ f.1 = (b : Int) := by
  rw [see_iff]
  constructor
  · rintro ⟨j, q, h⟩; exact ⟨j, _, h, rfl⟩
  · rintro ⟨i, f, h, e⟩; exact ⟨i, f.2, by rw [← e]; exact h⟩
theorem mem_edges_port {n : Net} {e : Ed} : e ∈ edgesB n ↔ ∃ (v i : Nat) (f : Int × Int), v < n.ends.length ∧ PortAt n v i f ∧ keepE v i f = true ∧ e = ((v : Int), (i : Int), f.1, f.2) := by
  rw [mem_edges]
  constructor
  · rintro ⟨v, i, hv, hi, hk, rfl⟩
    obtain ⟨f, hf⟩ := getx _ _ hi
    rw [getD_of hf] at hk ⊢
    exact ⟨v, i, f, hv, hf, hk, rfl⟩
  · rintro ⟨v, i, f, hv, hp, hk, rfl⟩
    have hp' : (rowOf n v)[i]? = some f := hp
    refine ⟨v, i, hv, lt_of_get hp', ?_, ?_⟩
    · rw [getD_of hp']; exact hk
    · rw [getD_of hp']
theorem keep_or {v i : Nat} {f : Int × Int} (h1 : 0 ≤ f.1) (h2 : 0 ≤ f.2) (h : keepE v i f = false) : keepE f.1.toNat f.2.toNat ((v : Int), (i : Int)) = true ∧ keepE v i f = false := by
  refine ⟨?_, h⟩
  unfold keepE at h ⊢
  simp only [Bool.or_eq_false_iff, Bool.and_eq_false_iff, decide_eq_false_iff_not, beq_eq_false_iff_ne, ne_eq] at h
  simp only [Bool.or_eq_true, Bool.and_eq_true, decide_eq_true_eq, beq_iff_eq]
  rw [Int.toNat_of_nonneg h1, Int.toNat_of_nonneg h2]
  omega
theorem keep_both {v i : Nat} {f : Int × Int} (h1 : 0 ≤ f.1) (h2 : 0 ≤ f.2) (h : keepE v i f = true) (h' : keepE f.1.toNat f.2.toNat ((v : Int), (i : Int)) = true) : f = ((v : Int), (i : Int)) := by
  unfold keepE at h h'
  simp only [Bool.or_eq_true, Bool.and_eq_true, decide_eq_true_eq, beq_iff_eq] at h h'
  rw [Int.toNat_of_nonneg h1, Int.toNat_of_nonneg h2] at h'
  obtain ⟨a, b⟩ := f
  simp only at h h' h1 h2
  rw [Prod.mk.injEq]
  omega
/-- the edge list and the network lead to the same nodes; both without some edges -/
theorem con_of {n : Net} (hn : netOk n = true) {F : List Ed} (keep : Nat → Nat → Bool) (hF : ∀ e, e ∈ F ↔ e ∈ edgesB n ∧ keep e.1.toNat e.2.1.toNat = true)
    (hk : ∀ v i f, PortAt n v i f → keep v i = keep f.1.toNat f.2.toNat) {a b : Nat} (R : Nat → Nat → Prop) (hrefl : ∀ a, R a a) (hstep : ∀ {a b c : Nat}, R a b → (∃ i f, PortAt n b i f ∧ keep b i = true ∧ f.1 = (c : Int)) → R a c)
    (hind : ∀ {a b : Nat}, R a b → ∀ (M : Nat → Prop), M a → (∀ b c : Nat, M b → (∃ i f, PortAt n b i f ∧ keep b i = true ∧ f.1 = (c : Int)) → M c) → M b) :
    Con (F.map fun e => (e.1.toNat, e.2.2.1.toNat)) a b ↔ R a b := by
  have one : ∀ {x y : Nat}, (x, y) ∈ (F.map fun e => (e.1.toNat, e.2.2.1.toNat)) ↔ ∃ i f, PortAt n x i f ∧ keep x i = true ∧ f.1 = (y : Int) ∧ keepE x i f = true := by
    intro x y
    rw [List.mem_map]
    constructor
    · rintro ⟨e, he, hxy⟩
      obtain ⟨h1, h2⟩ := (hF e).1 he
      obtain ⟨v, i, f, hv, hp, hke, rfl⟩ := mem_edges_port.1 h1
      simp only [Int.toNat_natCast, Prod.mk.injEq] at hxy h2
      obtain ⟨rfl, rfl⟩ := hxy
      exact ⟨i, f, hp, h2, (Int.toNat_of_nonneg (port_in hn hp).2.1).symm, hke⟩
    · rintro ⟨i, f, hp, h2, hf, hke⟩
      refine ⟨((x : Int), (i : Int), f.1, f.2), (hF _).2 ⟨mem_edges_port.2 ⟨x, i, f, (port_in hn hp).1, hp, hke, rfl⟩, by simpa using h2⟩, ?_⟩
      simp [hf]
  constructor
  · intro h
    induction h with
    | refl => exact hrefl _
    | @step b c _ hs ih =>
      refine hstep ih ?_
      rcases hs with hs | hs
      · obtain ⟨i, f, h1, h2, h3, _⟩ := one.1 hs
        exact ⟨i, f, h1, h2, h3⟩
      · obtain ⟨i, f, h1, h2, h3, _⟩ := one.1 hs
        obtain ⟨g1, g2, g3, g4, g5⟩ := port_in hn h1
        rw [h3, Int.toNat_natCast] at g5
        refine ⟨f.2.toNat, _, g5, ?_, rfl⟩
        have := hk _ _ _ h1
        rw [h3, Int.toNat_natCast] at this
        rw [← this]; exact h2
  · intro h
    refine hind h (fun z => Con _ a z) .refl ?_
    rintro x y hx ⟨i, f, h1, h2, h3⟩
    refine hx.step ?_
    by_cases hke : keepE x i f = true
    · exact .inl (one.2 ⟨i, f, h1, h2, h3, hke⟩)
    · obtain ⟨g1, g2, g3, g4, g5⟩ := port_in hn h1
      have hke2 := (keep_or g2 g4 (by simpa using hke)).1
      have hkk := hk _ _ _ h1
      rw [h3, Int.toNat_natCast] at g5 hke2 hkk
      exact .inr (one.2 ⟨f.2.toNat, _, g5, by rw [← hkk]; exact h2, rfl, hke2⟩)
theorem con_rch {n : Net} (hn : netOk n = true) {a b : Nat} : Con (edE n) a b ↔ Rch n a b := by
  refine con_of hn (F := edgesB n) (fun _ _ => true) (by simp) (by simp) (Rch n) (fun _ => .refl) ?_ ?_
  · rintro a b c h ⟨i, f, h1, _, h3⟩
    exact h.step (see_port.2 ⟨i, f, h1, h3⟩)
  · intro a b h M h0 hM
    induction h with
    | refl => exact h0
    | step _ hs ih =>
      obtain ⟨i, f, h1, h3⟩ := see_port.1 hs
      exact hM _ _ ih ⟨i, f, h1, rfl, h3⟩
theorem edE_inside {n : Net} (hn : netOk n = true) : Inside (edE n) n.ends.length := by
  intro e he
  obtain ⟨x, hx, rfl⟩ := List.mem_map.1 he
  obtain ⟨v, i, f, hv, hp, _, rfl⟩ := mem_edges_port.1 hx
  have := port_in hn hp
  simp only [Int.toNat_natCast]
  omega
def rootsB (n : Net) (k : Nat) : Nat := (List.range k).countP fun v => leastB n v == v
open Classical in
theorem roots_parts {n : Net} (hn : netOk n = true) : rootsB n n.ends.length = parts (edE n) n.ends.length := by
  unfold rootsB parts
  apply List.countP_congr
  intro v hv
  have hv' := List.mem_range.1 hv
  rw [decide_eq_true_eq]
  obtain ⟨l1, l2, l3⟩ := least_spec hn hv'
  constructor
  · intro h u hu
    have := l3 u ((con_rch hn).1 hu)
    simp only [beq_iff_eq] at h
    omega
  · intro h
    have h1 := h _ ((con_rch hn).2 l1)
    have h2 := least_le hn hv'
    simp only [beq_iff_eq]
    omega
theorem edges_nodup (n : Net) : (edgesB n).Nodup := by
  unfold edgesB edgesTo
  unfold List.Nodup
  rw [List.pairwise_flatMap]
  have one : ∀ v es k e, e ∈ erow v es k → e.1 = (v : Int) := by
    intro v es k e he
    unfold erow at he
    obtain ⟨j, _, hj⟩ := List.mem_flatMap.1 he
    unfold eone at hj
    split at hj
    · rw [List.mem_singleton.1 hj]
    · simp at hj
  constructor
  · intro v _
    unfold erow
    rw [List.pairwise_flatMap]
    constructor
    · intro j _
      unfold eone
      split <;> simp
    · refine List.Pairwise.imp ?_ (List.pairwise_lt_range (n := (rowOf n v).length))
      intro i j hij x hx y hy e
      subst e
      unfold eone at hx hy
      split at hx
      · split at hy
        · have a := List.mem_singleton.1 hx
          have b := List.mem_singleton.1 hy
          rw [a] at b
          simp only [Prod.mk.injEq] at b
          omega
        · simp at hy
      · simp at hx
  · refine List.Pairwise.imp ?_ (List.pairwise_lt_range (n := n.ends.length))
    intro u v huv x hx y hy e
    subst e
    have a := one _ _ _ _ hx
    have b := one _ _ _ _ hy
    omega
/-- a network without the ports that are not kept -/
def cntK (keep : Nat → Nat → Bool) (v k : Nat) : Nat := ((List.range k).filter (keep v)).length
def cutRowU (n : Net) (keep : Nat → Nat → Bool) (v k : Nat) : List (Int × Int) := ((List.range k).filter (keep v)).map fun i => (((rowOf n v).getD i (0, 0)).1, ((cntK keep ((rowOf n v).getD i (0, 0)).1.toNat ((rowOf n v).getD i (0, 0)).2.toNat : Nat) : Int))
def cutRow (n : Net) (keep : Nat → Nat → Bool) (v : Nat) : List (Int × Int) := cutRowU n keep v (rowOf n v).length
def cutB (n : Net) (keep : Nat → Nat → Bool) : Net := { n with ends := (List.range n.ends.length).map (cutRow n keep) }
theorem cntK_succ (keep : Nat → Nat → Bool) (v k : Nat) : cntK keep v (k + 1) = cntK keep v k + (if keep v k then 1 else 0) := by
  unfold cntK
  rw [List.range_succ, List.filter_append, List.length_append]
  cases h : keep v k <;> simp [h]
theorem cutRowU_succ (n : Net) (keep : Nat → Nat → Bool) (v k : Nat) : cutRowU n keep v (k + 1) = cutRowU n keep v k ++ (if keep v k then [(((rowOf n v).getD k (0, 0)).1, ((cntK keep ((rowOf n v).getD k (0, 0)).1.toNat ((rowOf n v).getD k (0, 0)).2.toNat : Nat) : Int))] else []) := by
  unfold cutRowU
  rw [List.range_succ, List.filter_append, List.map_append]
  cases h : keep v k <;> simp [h]
theorem cutRow_len (n : Net) (keep : Nat → Nat → Bool) (v k : Nat) : (cutRowU n keep v k).length = cntK keep v k := by simp [cutRowU, cntK]
theorem cntK_mono (keep : Nat → Nat → Bool) (v : Nat) {j k : Nat} (h : j ≤ k) : cntK keep v j ≤ cntK keep v k := by
  induction k with
  | zero => obtain rfl : j = 0 := by omega
            exact Nat.le_refl _
  | succ k ih =>
    rcases Nat.lt_or_ge k j with h1 | h1
    · obtain rfl : j = k + 1 := by omega
      exact Nat.le_refl _
    · rw [cntK_succ]; have := ih h1; omega
theorem cntK_lt (keep : Nat → Nat → Bool) (v : Nat) {j k : Nat} (h : j < k) (hk : keep v j = true) : cntK keep v j < cntK keep v k := by
  have h1 := cntK_mono keep v (j := j + 1) (k := k) (by omega)
  rw [cntK_succ, hk] at h1
  simp at h1
  omega
theorem cntK_le (keep : Nat → Nat → Bool) (v k : Nat) : cntK keep v k ≤ k := by
  unfold cntK
  have := List.length_filter_le (keep v) (List.range k)
  simpa using this
theorem cutRow_at (n : Net) (keep : Nat → Nat → Bool) (v : Nat) : ∀ (k j : Nat), j < k → keep v j = true → (cutRowU n keep v k)[cntK keep v j]? = some (((rowOf n v).getD j (0, 0)).1, ((cntK keep ((rowOf n v).getD j (0, 0)).1.toNat ((rowOf n v).getD j (0, 0)).2.toNat : Nat) : Int)) := by
  intro k
  induction k with
  | zero => intro j hj; omega
  | succ k ih =>
    intro j hj hk
    rw [cutRowU_succ]
    rcases Nat.lt_or_ge j k with h | h
    · rw [List.getElem?_append_left (by rw [cutRow_len]; exact cntK_lt keep v h hk)]
      exact ih j h hk
    · obtain rfl : j = k := by omega
      rw [List.getElem?_append_right (by rw [cutRow_len]; exact Nat.le_refl _), cutRow_len, hk]
      simp
theorem cutRow_inv (n : Net) (keep : Nat → Nat → Bool) (v : Nat) : ∀ (k m : Nat) (f : Int × Int), (cutRowU n keep v k)[m]? = some f → ∃ j, j < k ∧ keep v j = true ∧ m = cntK keep v j ∧ f = (((rowOf n v).getD j (0, 0)).1, ((cntK keep ((rowOf n v).getD j (0, 0)).1.toNat ((rowOf n v).getD j (0, 0)).2.toNat : Nat) : Int)) := by
  intro k
  induction k with
  | zero => intro m f h; simp [cutRowU] at h
  | succ k ih =>
    intro m f h
    rw [cutRowU_succ] at h
    rcases Nat.lt_or_ge m (cutRowU n keep v k).length with hm | hm
    · rw [List.getElem?_append_left hm] at h
      obtain ⟨j, a, b⟩ := ih m f h
      exact ⟨j, by omega, b⟩
    · rw [List.getElem?_append_right hm] at h
      cases hk : keep v k with
      | false => rw [hk] at h; simp at h
      | true =>
        rw [hk] at h
        simp only [if_true] at h
        have := lt_of_get h
        simp only [List.length_cons, List.length_nil] at this
        rw [cutRow_len] at hm this
        have hm0 : m - cntK keep v k = 0 := by omega
        rw [cutRow_len, hm0] at h
        simp only [List.getElem?_cons_zero, Option.some.injEq] at h
        exact ⟨k, by omega, hk, by omega, h.symm⟩
theorem cut_row (n : Net) (keep : Nat → Nat → Bool) {v : Nat} (hv : v < n.ends.length) : (cutB n keep).ends.getD v [] = cutRow n keep v := by
  rw [List.getD_eq_getElem?_getD]
  simp [cutB, hv]
theorem cut_port {n : Net} (hn : netOk n = true) (keep : Nat → Nat → Bool) {v m : Nat} {g : Int × Int} : PortAt (cutB n keep) v m g ↔ ∃ j f, PortAt n v j f ∧ keep v j = true ∧ m = cntK keep v j ∧ g = (f.1, ((cntK keep f.1.toNat f.2.toNat : Nat) : Int)) := by
  constructor
  · intro h
    have hv : v < n.ends.length := by
      rcases Nat.lt_or_ge v n.ends.length with h1 | h1
      · exact h1
      · unfold PortAt at h
        have hl : (cutB n keep).ends.length = n.ends.length := by simp [cutB]
        rw [List.getD_eq_getElem?_getD, List.getElem?_eq_none (l := (cutB n keep).ends) (by rw [hl]; exact h1)] at h
        simp at h
    unfold PortAt at h
    rw [cut_row n keep hv] at h
    obtain ⟨j, h1, h2, h3, h4⟩ := cutRow_inv n keep v _ m g h
    obtain ⟨f, hf⟩ := getx _ _ h1
    rw [getD_of hf] at h4
    exact ⟨j, f, hf, h2, h3, h4⟩
  · rintro ⟨j, f, hp, hk, rfl, rfl⟩
    have hv := (port_in hn hp).1
    have hp' : (rowOf n v)[j]? = some f := hp
    unfold PortAt
    rw [cut_row n keep hv]
    have := cutRow_at n keep v (rowOf n v).length j (lt_of_get hp') hk
    rw [getD_of hp'] at this
    exact this
theorem cut_ok {n : Net} (hn : netOk n = true) (keep : Nat → Nat → Bool) (hk : ∀ v i f, PortAt n v i f → keep v i = keep f.1.toNat f.2.toNat) : netOk (cutB n keep) = true := by
  have hl : (cutB n keep).ends.length = n.ends.length := by simp [cutB]
  have hn' := hn
  unfold netOk at hn ⊢
  rw [hl]
  simp only [Bool.and_eq_true] at hn ⊢
  refine ⟨hn.1, ?_⟩
  rw [List.all_eq_true]
  intro v hv
  have hv' := List.mem_range.1 hv
  have h0 := List.all_eq_true.1 hn.2 v hv
  unfold rowOkB at h0 ⊢
  rw [cut_row n keep hv']
  simp only [Bool.and_eq_true, decide_eq_true_eq] at h0 ⊢
  constructor
  · unfold cutRow
    rw [cutRow_len]
    have := cntK_le keep v (rowOf n v).length
    have h1 := h0.1
    unfold rowOf at this ⊢
    omega
  · rw [List.all_eq_true]
    intro m hm
    have hm' := List.mem_range.1 hm
    obtain ⟨g, hg⟩ := getx _ _ hm'
    rw [getD_of hg]
    have hpg : PortAt (cutB n keep) v m g := by unfold PortAt; rw [cut_row n keep hv']; exact hg
    obtain ⟨j, f, hp, hkj, rfl, rfl⟩ := (cut_port hn' keep).1 hpg
    obtain ⟨g1, g2, g3, g4, g5⟩ := port_in hn' hp
    have hkf : keep f.1.toNat f.2.toNat = true := by rw [← hk v j f hp]; exact hkj
    have hback : PortAt (cutB n keep) f.1.toNat (cntK keep f.1.toNat f.2.toNat) ((v : Int), ((cntK keep v j : Nat) : Int)) := (cut_port hn' keep).2 ⟨f.2.toNat, _, g5, hkf, rfl, by simp⟩
    have hlt := lt_of_get hback
    unfold endOkB hasPortB eqE
    simp only [Int.toNat_natCast, Bool.and_eq_true, inB_iff, decide_eq_true_eq]
    rw [hl]
    exact ⟨⟨by omega, by omega⟩, getD_of hback⟩
theorem cut_con {n : Net} (hn : netOk n = true) (keep : Nat → Nat → Bool) (hk : ∀ v i f, PortAt n v i f → keep v i = keep f.1.toNat f.2.toNat) {F : List Ed} (hF : ∀ e, e ∈ F ↔ e ∈ edgesB n ∧ keep e.1.toNat e.2.1.toNat = true) {a b : Nat} :
    Con (F.map fun e => (e.1.toNat, e.2.2.1.toNat)) a b ↔ Rch (cutB n keep) a b := by
  refine con_of hn keep hF hk (Rch (cutB n keep)) (fun _ => .refl) ?_ ?_
  · rintro a b c h ⟨i, f, h1, h2, h3⟩
    exact h.step (see_port.2 ⟨_, _, (cut_port hn keep).2 ⟨i, f, h1, h2, rfl, rfl⟩, h3⟩)
  · intro a b h M h0 hM
    induction h with
    | refl => exact h0
    | step _ hs ih =>
      obtain ⟨m, g, h1, h3⟩ := see_port.1 hs
      obtain ⟨i, f, k1, k2, k3, k4⟩ := (cut_port hn keep).1 h1
      exact hM _ _ ih ⟨i, f, k1, k2, by rw [← h3, k4]⟩
/-- all ports but one and its other side -/
def keepX (v i : Nat) (f : Int × Int) (x j : Nat) : Bool := !((x == v && j == i) || (x == f.1.toNat && j == f.2.toNat))
theorem keepX_ok {n : Net} (hn : netOk n = true) {v i : Nat} {f : Int × Int} (hp : PortAt n v i f) : ∀ x j g, PortAt n x j g → keepX v i f x j = keepX v i f g.1.toNat g.2.toNat := by
  intro x j g hg
  obtain ⟨g1, g2, g3, g4, g5⟩ := port_in hn hg
  obtain ⟨f1, f2, f3, f4, f5⟩ := port_in hn hp
  have fact1 : x = v → j = i → g = f := by
    rintro rfl rfl
    unfold PortAt at hg hp
    rw [hg] at hp
    exact Option.some.inj hp
  have fact2 : x = f.1.toNat → j = f.2.toNat → g = ((v : Int), (i : Int)) := by
    rintro rfl rfl
    unfold PortAt at hg f5
    rw [hg] at f5
    exact Option.some.inj f5
  have fact3 : g.1.toNat = v → g.2.toNat = i → x = f.1.toNat ∧ j = f.2.toNat := by
    intro h1 h2
    rw [h1, h2] at g5
    unfold PortAt at g5 hp
    rw [g5] at hp
    have := Option.some.inj hp
    rw [← this]
    simp
  have fact4 : g.1.toNat = f.1.toNat → g.2.toNat = f.2.toNat → x = v ∧ j = i := by
    intro h1 h2
    rw [h1, h2] at g5
    unfold PortAt at g5 f5
    rw [g5] at f5
    have := Option.some.inj f5
    simp only [Prod.mk.injEq] at this
    omega
  unfold keepX
  congr 1
  rw [Bool.eq_iff_iff]
  simp only [Bool.or_eq_true, Bool.and_eq_true, beq_iff_eq]
  constructor
  · rintro (⟨h1, h2⟩ | ⟨h1, h2⟩)
    · rw [fact1 h1 h2]; exact .inr ⟨rfl, rfl⟩
    · rw [fact2 h1 h2]; exact .inl ⟨by simp, by simp⟩
  · rintro (⟨h1, h2⟩ | ⟨h1, h2⟩)
    · exact .inr (fact3 h1 h2)
    · exact .inl (fact4 h1 h2)
/-- no stub and no cycle, seen from the ports and from the numbers -/
theorem forest_net {n : Net} (hn : netOk n = true) : ((edgesB n).length + rootsB n n.ends.length = n.ends.length) ↔ ∀ v i f, PortAt n v i f → ¬ Rch (cutB n (keepX v i f)) v f.1.toNat := by
  have h0 := forest_iff (edE_inside hn)
  have hel : (edE n).length = (edgesB n).length := by simp [edE]
  rw [hel, ← roots_parts hn] at h0
  rw [Nat.add_comm, h0]
  have mem_er : ∀ (k : Nat) (e : Ed), (edgesB n)[k]? = some e → ∀ x, x ∈ (edgesB n).eraseIdx k ↔ x ∈ edgesB n ∧ x ≠ e := by
    intro k e he x
    have hnd := edges_nodup n
    have h1 := mem_erase_idx he
    obtain ⟨hl, hee⟩ := List.getElem?_eq_some_iff.1 he
    have h2 : e ∉ (edgesB n).eraseIdx k := by
      rw [List.eraseIdx_eq_take_drop_succ]
      have e1 : edgesB n = (edgesB n).take k ++ e :: (edgesB n).drop (k + 1) := by rw [← hee, ← List.drop_eq_getElem_cons hl, List.take_append_drop]
      rw [e1] at hnd
      have h3 := List.nodup_append.1 hnd
      have h4 := List.nodup_cons.1 h3.2.1
      intro hm
      rcases List.mem_append.1 hm with hm | hm
      · exact h3.2.2 e hm e (by simp) rfl
      · exact h4.1 hm
    constructor
    · intro hx
      exact ⟨(h1 x).2 (List.mem_cons_of_mem _ hx), fun e2 => h2 (e2 ▸ hx)⟩
    · rintro ⟨hx, hne⟩
      rcases List.mem_cons.1 ((h1 x).1 hx) with e2 | e2
      · exact absurd e2 hne
      · exact e2
  -- an edge of the list and its port
  have key : ∀ (k v i : Nat) (f : Int × Int), PortAt n v i f → keepE v i f = true → (edgesB n)[k]? = some ((v : Int), (i : Int), f.1, f.2) → ∀ a b, Con ((edE n).eraseIdx k) a b ↔ Rch (cutB n (keepX v i f)) a b := by
    intro k v i f hp hke he a b
    have : (edE n).eraseIdx k = ((edgesB n).eraseIdx k).map fun e => (e.1.toNat, e.2.2.1.toNat) := by
      unfold edE
      rw [List.eraseIdx_eq_take_drop_succ, List.eraseIdx_eq_take_drop_succ, List.map_append, List.map_take, List.map_drop]
    rw [this]
    refine cut_con hn _ (keepX_ok hn hp) ?_
    intro e
    rw [mem_er k _ he e]
    apply and_congr_right
    intro hm
    obtain ⟨x, j, g, hx, hpx, hkx, rfl⟩ := mem_edges_port.1 hm
    obtain ⟨f1, f2, f3, f4, f5⟩ := port_in hn hp
    simp only [Int.toNat_natCast, keepX, Bool.not_eq_true', Bool.or_eq_false_iff, Bool.and_eq_false_iff, beq_eq_false_iff_ne, ne_eq, Prod.mk.injEq]
    constructor
    · intro hne
      constructor
      · rcases Nat.lt_trichotomy x v with h | h | h
        · exact .inl (by omega)
        · subst h
          refine .inr fun hji => ?_
          subst hji
          unfold PortAt at hpx hp
          rw [hpx] at hp
          have hgf := Option.some.inj hp
          subst hgf
          exact hne ⟨rfl, rfl, rfl, rfl⟩
        · exact .inl (by omega)
      · by_cases h1 : x = f.1.toNat
        · refine .inr fun h2 => ?_
          subst h1 h2
          unfold PortAt at hpx f5
          rw [hpx] at f5
          have hg := Option.some.inj f5
          subst hg
          have hff := keep_both f2 f4 hke hkx
          subst hff
          simp at hne
        · exact .inl h1
    · rintro ⟨h1, _⟩ ⟨q1, q2, _⟩
      rcases h1 with h1 | h1 <;> omega
  constructor
  · intro hb v i f hp hr
    obtain ⟨f1, f2, f3, f4, f5⟩ := port_in hn hp
    by_cases hke : keepE v i f = true
    · obtain ⟨k, hk⟩ := List.mem_iff_getElem?.1 (mem_edges_port.2 ⟨v, i, f, f1, hp, hke, rfl⟩)
      refine hb k (v, f.1.toNat) ?_ ((key k v i f hp hke hk _ _).2 hr)
      unfold edE
      rw [List.getElem?_map, hk]
      simp
    · have hke2 := (keep_or f2 f4 (by simpa using hke)).1
      obtain ⟨k, hk⟩ := List.mem_iff_getElem?.1 (mem_edges_port.2 ⟨f.1.toNat, f.2.toNat, _, by omega, f5, hke2, rfl⟩)
      refine hb k (f.1.toNat, v) ?_ ((key k _ _ _ f5 hke2 hk _ _).2 ?_)
      · unfold edE
        rw [List.getElem?_map, hk]
        simp only [Option.map_some, Int.toNat_natCast]
      · have hx : keepX f.1.toNat f.2.toNat ((v : Int), (i : Int)) = keepX v i f := by
          funext x j
          unfold keepX
          simp only [Int.toNat_natCast]
          rw [Bool.or_comm]
        rw [hx]
        exact Rch.symm (cut_ok hn _ (keepX_ok hn hp)) (by simpa [cutB] using f1) hr
  · intro hb k e he hc
    unfold edE at he
    rw [List.getElem?_map] at he
    cases hk : (edgesB n)[k]? with
    | none => rw [hk] at he; simp at he
    | some x =>
      rw [hk] at he
      obtain ⟨v, i, f, hv, hp, hke, rfl⟩ := mem_edges_port.1 (List.mem_of_getElem? hk)
      simp only [Option.map_some, Option.some.injEq, Int.toNat_natCast] at he
      subst he
      exact hb v i f hp ((key k v i f hp hke hk _ _).1 hc)
end Go.Proofs.Ytomnaabadohecaa
