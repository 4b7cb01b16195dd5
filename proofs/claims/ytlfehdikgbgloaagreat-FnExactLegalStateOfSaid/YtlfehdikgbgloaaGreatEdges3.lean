import Derived.Test.YtlfehdikgbgloaaGreatBfs1
import Derived.Test.YtlfehdikgbgloaaGreatPort
namespace Go.Proofs.YtlfehdikgbgloaaGreat
open Go.RowKit
/-! edges: rows of four integers -/
abbrev Ed := Int × Int × Int × Int
def encD (e : Ed) : List Value := [.int .i64 e.1, .int .i64 e.2.1, .int .i64 e.2.2.1, .int .i64 e.2.2.2]
theorem edge_info : (Tryz.prog.info? 112).map (fun i => (i.zero, i.size, i.bytes)) = some (some (.agg #[.int .i64 0, .int .i64 0, .int .i64 0, .int .i64 0]), 4, 32) := by kernel_rfl
def OwnD (w : World) (base : Nat) (v : Value) (xs : List Ed) : Prop := w.ownsRow base 112 4 v xs.length (xs.flatMap encD)
theorem encD_len (xs : List Ed) : (xs.flatMap encD).length = xs.length * 4 := by
  induction xs with
  | nil => rfl
  | cons x xs ih => simp [encD, ih]; omega
theorem encD_get : ∀ {xs : List Ed} {k : Nat} {x : Ed}, xs[k]? = some x → (xs.flatMap encD)[k * 4]? = some (.int .i64 x.1) ∧ (xs.flatMap encD)[k * 4 + 1]? = some (.int .i64 x.2.1) ∧ (xs.flatMap encD)[k * 4 + 2]? = some (.int .i64 x.2.2.1) ∧ (xs.flatMap encD)[k * 4 + 3]? = some (.int .i64 x.2.2.2)
  | [], _, _, h => by simp at h
  | y :: xs, 0, x, h => by simp at h; subst h; simp [encD]
  | y :: xs, k + 1, x, h => by
    obtain ⟨h1, h2, h3, h4⟩ := encD_get (xs := xs) (k := k) (x := x) (by simpa using h)
    have e : ∀ j, ((y :: xs).flatMap encD)[(k + 1) * 4 + j]? = (xs.flatMap encD)[k * 4 + j]? := fun j => by
      rw [List.flatMap_cons, List.getElem?_append_right (by simp [encD]; omega)]
      congr 1
      simp [encD]; omega
    exact ⟨(e 0).trans h1, (e 1).trans h2, (e 2).trans h3, (e 3).trans h4⟩
theorem OwnD.keep {w w' : World} {base : Nat} {v : Value} {xs : List Ed} (h : OwnD w base v xs) (hb : Since w w') : OwnD w' base v xs := ownsRow_stable h fun k hk => hb.below.block k (World.ownsRow.lt h k (by simpa using hk)).2
theorem OwnD.mono {w : World} {base base' : Nat} {v : Value} {xs : List Ed} (h : OwnD w base v xs) (hb : base' ≤ base) : OwnD w base' v xs := ownsRow_mono h hb
theorem ownD_nil (w : World) (base : Nat) : OwnD w base (.slice none 0 0) [] := World.ownsRow_nil w base _ _
/-- a row of edges, for reading -/
def EdgeS (W : World) (v : Value) (xs : List Ed) : Prop := ∃ A c, v = .slice A xs.length c ∧ c ≤ maxLen ∧ xs.length ≤ c ∧ ∀ k x, xs[k]? = some x → ∃ b, A = some ⟨b, 0, none⟩ ∧ W.cell? ⟨b, k * 4, none⟩ = some (.int .i64 x.1) ∧ W.cell? ⟨b, k * 4 + 1, none⟩ = some (.int .i64 x.2.1) ∧ W.cell? ⟨b, k * 4 + 2, none⟩ = some (.int .i64 x.2.2.1) ∧ W.cell? ⟨b, k * 4 + 3, none⟩ = some (.int .i64 x.2.2.2)
theorem OwnD.read {w : World} {base : Nat} {v : Value} {xs : List Ed} (h : OwnD w base v xs) : EdgeS w v xs := by
  have h' := h
  rcases h.2 with ⟨rfl, hn⟩ | ⟨g, cap, cur, rfl, hb, hg, hnc, hcm, hsz, htk⟩
  · have : xs = [] := List.eq_nil_of_length_eq_zero hn
    subst this
    exact ⟨none, 0, rfl, Nat.zero_le _, Nat.le_refl _, fun k x hk => by simp at hk⟩
  · refine ⟨_, cap, rfl, hcm, hnc, fun k x hk => ⟨g, rfl, ?_⟩⟩
    obtain ⟨h1, h2, h3, h4⟩ := encD_get hk
    have hkl := lt_of_get hk
    exact ⟨by rw [World.ownsRow.cellAt (cap := cap) h' _ (by omega)]; exact h1, by rw [World.ownsRow.cellAt (cap := cap) h' _ (by omega)]; exact h2, by rw [World.ownsRow.cellAt (cap := cap) h' _ (by omega)]; exact h3, by rw [World.ownsRow.cellAt (cap := cap) h' _ (by omega)]; exact h4⟩
theorem app_edge {w w0 : World} {ops : Array Oper} {rest : List Oper} {o : Oper} {a : Act} {Q : Exit → Act → World → Prop} (hgd : o.guard = none) (s x : Operand)
    (ho : o.op = .call { callee := .builtin .append, args := #[s, x], argTypes := #[109, 109] }) {v : Value} {xs : List Ed} (hs : a.eval s = v) (h : OwnD w w0.heap.size v xs) (b : Nat) (y : Ed)
    (hx : a.eval x = .slice (some ⟨b, 0, none⟩) 1 1) (hc0 : w.cell? ⟨b, 0, none⟩ = some (.int .i64 y.1)) (hc1 : w.cell? ⟨b, 1, none⟩ = some (.int .i64 y.2.1)) (hc2 : w.cell? ⟨b, 2, none⟩ = some (.int .i64 y.2.2.1)) (hc3 : w.cell? ⟨b, 3, none⟩ = some (.int .i64 y.2.2.2)) (hl : xs.length + 1 ≤ 1000000) (hsn : Since w0 w)
    (k : ∀ g cap w', OwnD w' w0.heap.size (.slice (some ⟨g, 0, none⟩) (xs.length + 1) cap) (xs ++ [y]) → Since w0 w' → wpList Tryz.prog ops Q rest (a.put o.dst (.slice (some ⟨g, 0, none⟩) (xs.length + 1) cap)) w') : wpList Tryz.prog ops Q (o :: rest) a w := by
  obtain ⟨i0, hi, hz0, hz1, hz2⟩ := info_parts edge_info
  refine wpList_append_lies w hgd s x 109 ho w0.heap.size 112 i0 _ 4 32 Tryz.underlying109 hi hz0 hz1 hz2 rfl (by decide) v xs.length (xs.flatMap encD) hs h ⟨b, 0, none⟩ 1 1 (encD y) hx rfl
    (by
      intro j u hj
      rw [Go.Addr.add_lit, Nat.zero_add]
      match j, hj with
      | 0, hj => simp [encD] at hj; subst hj; exact hc0
      | 1, hj => simp [encD] at hj; subst hj; exact hc1
      | 2, hj => simp [encD] at hj; subst hj; exact hc2
      | 3, hj => simp [encD] at hj; subst hj; exact hc3
      | j + 4, hj => simp [encD] at hj) (by simp [encD, Value.oneCell']) (by omega) (by unfold maxLen; omega) (by omega) hsn.below.size w.heap.size rfl ?_
  intro g cap w' h1 h2 h3 h4
  refine k g cap w' ?_ (Below.grown hsn h2 hsn.below.size (fun q hq => (World.ownsRow.lt h q hq).1))
  unfold OwnD
  simpa using h1
def PredD (w0 : World) (fid : FuncId) (caps : Array Value) (p : Ed → Bool) (xs : List Ed) : Prop :=
  ∀ x ∈ xs, ∀ w, Since w0 w → Calls Tryz.prog fid (#[.agg #[.int .i64 x.1, .int .i64 x.2.1, .int .i64 x.2.2.1, .int .i64 x.2.2.2]] ++ caps) w fun e w' => e = .returned (.bool (p x)) ∧ Below w.heap.size w w'
def didx (p : Ed → Bool) (xs : List Ed) : Int := match xs.findIdx? p with | some i => (i : Int) | none => -1
theorem didx_none {p : Ed → Bool} {xs : List Ed} (h : xs.any p = false) : didx p xs = -1 := by
  have : xs.findIdx? p = none := by
    rw [List.findIdx?_eq_none_iff]
    intro x hx
    rw [List.any_eq_false] at h
    simpa using h x hx
  simp [didx, this]
theorem didx_found {p : Ed → Bool} {xs : List Ed} {k : Nat} {x : Ed} (hx : xs[k]? = some x) (hp : p x = true) (h : (xs.take k).any p = false) : didx p xs = k := by
  have : xs.findIdx? p = some k := by
    obtain ⟨hk, rfl⟩ := List.getElem?_eq_some_iff.1 hx
    rw [List.findIdx?_eq_some_iff_getElem]
    refine ⟨hk, hp, fun j hj => ?_⟩
    rw [List.any_eq_false] at h
    have := h xs[j] (List.mem_take_iff_getElem.2 ⟨j, by omega, rfl⟩)
    simpa using this
  simp [didx, this]
theorem didx_any (p : Ed → Bool) (xs : List Ed) : decide (0 ≤ didx p xs) = xs.any p := by
  unfold didx
  cases h : xs.findIdx? p with
  | none =>
    rw [List.findIdx?_eq_none_iff] at h
    have : xs.any p = false := by rw [List.any_eq_false]; intro x hx; simp [h x hx]
    rw [this]; rfl
  | some i =>
    rw [List.findIdx?_eq_some_iff_getElem] at h
    obtain ⟨hi, hp, -⟩ := h
    have : xs.any p = true := List.any_eq_true.2 ⟨_, List.getElem_mem hi, hp⟩
    rw [this]; simp
theorem any_snocD {p : Ed → Bool} {xs : List Ed} {k : Nat} {x : Ed} (hx : xs[k]? = some x) (h : (xs.take k).any p = false) (hp : p x = false) : (xs.take (k + 1)).any p = false := by
  rw [take_snoc hx, List.any_append, h]
  simp [hp]
set_option maxHeartbeats 4000000 in
theorem indexFuncD_any (v : Value) (xs : List Ed) (fid : FuncId) (caps : Array Value) (p : Ed → Bool) (w : World) (h : EdgeS w v xs) (henter : ∀ args w, (callFunc fid args).run Tryz.prog w = .ok (.enter fid args) w) (hp : PredD w fid caps p xs) :
    Calls Tryz.prog 242 #[v, .func (.func fid) #[] caps] w fun e w' => e = .returned (.int .i64 (didx p xs)) ∧ Below w.heap.size w w' := by
  have H := Lib.hid h
  obtain ⟨A, c, rfl, hm, hlc, hA⟩ := h
  unfold maxLen at hm
  have HA := Lib.hid hA
  clear hA
  have Hp := Lib.hid hp
  have eg := henter
  clear hp
  go_enter Tryz.func242, Tryz.ntmps242
  go_wp2
  go_loopw [8] (fun i wr => ∃ k : Nat, k ≤ xs.length ∧ i = .int .i64 k ∧ (xs.take k).any p = false ∧ Since w wr) (fun i _ => xs.length - (intOf i).toNat)
  case atStart => exact ⟨0, Nat.zero_le _, rfl, rfl, since_refl _⟩
  case round =>
    obtain ⟨k, hk, rfl, hany, hb⟩ := hrel
    have Hany := Lib.hid hany
    have Hb := Lib.hid hb
    clear hany hb
    by_cases hlt : k < xs.length
    · obtain ⟨x, hx⟩ := getx xs k hlt
      obtain ⟨b, rfl, hc0, hc1, hc2, hc3⟩ := HA.out k x hx
      have d0 := Hb.out.cell hc0
      have d1 := Hb.out.cell hc1
      have d2 := Hb.out.cell hc2
      have d3 := Hb.out.cell hc3
      have Hx := Lib.hid hx
      clear hx hc0 hc1 hc2 hc3
      obtain ⟨y, hy⟩ : ∃ y, y = p x := ⟨_, rfl⟩
      have Hy := Lib.hid hy
      have hcall := Hp.out x (List.mem_of_getElem? Hx.out) _ Hb.out
      rw [← hy] at hcall
      have Hcall := Lib.hid hcall
      clear hy hcall
      go_wp2_with fail
      refine Hcall.out.mono ?_
      rintro e w1 ⟨rfl, hb1⟩
      have Hb1 := Lib.hid (Hb.out.trans hb1)
      clear hb1
      cases y
      · go_wp2
        go_roundw
        case rel => exact ⟨k + 1, by omega, by go_num, any_snocD Hx.out Hany.out Hy.out.symm, Hb1.out⟩
        case measure => simp [intOf]; omega
      · have Hr : Hid (didx p xs = k) := didx_found Hx.out Hy.out.symm Hany.out
        go_wp2
        go_ret
        exact ⟨congrArg (fun i => Ending.returned (.int .i64 i)) Hr.out.symm, Hb1.out⟩
    · obtain rfl : k = xs.length := by omega
      have Hr : Hid (didx p xs = -1) := didx_none (by have := Hany.out; rwa [List.take_length] at this)
      go_wp2
      go_ret
      exact ⟨congrArg (fun i => Ending.returned (.int .i64 i)) Hr.out.symm, Hb.out⟩
theorem containsFuncD_any (v : Value) (xs : List Ed) (fid : FuncId) (caps : Array Value) (p : Ed → Bool) (w : World) (h : EdgeS w v xs) (henter : ∀ args w, (callFunc fid args).run Tryz.prog w = .ok (.enter fid args) w) (hp : PredD w fid caps p xs) :
    Calls Tryz.prog 215 #[v, .func (.func fid) #[] caps] w fun e w' => e = .returned (.bool (xs.any p)) ∧ Below w.heap.size w w' := by
  have hi := Lib.hid (indexFuncD_any v xs fid caps p w h henter hp)
  have He := Lib.hid (didx_any p xs)
  obtain ⟨A, c, rfl, hm, hlc, hA⟩ := h
  go_enter Tryz.func215, Tryz.ntmps215
  go_wp2_with fail
  refine hi.out.mono ?_
  rintro e w1 ⟨rfl, hb⟩
  have Hb := Lib.hid hb
  clear hb
  go_wp2
  go_ret
  exact ⟨congrArg (fun b => Ending.returned (.bool b)) He.out, Hb.out⟩
end Go.Proofs.YtlfehdikgbgloaaGreat
namespace Go.Proofs.YtlfehdikgbgloaaGreat
open Go.RowKit
def keepE (v i : Nat) (e : Int × Int) : Bool := decide ((v : Int) < e.1) || (((v : Int) == e.1) && decide ((i : Int) ≤ e.2))
def eone (v i : Nat) (e : Int × Int) : List Ed := if keepE v i e then [((v : Int), (i : Int), e.1, e.2)] else []
def erow (v : Nat) (es : List (Int × Int)) (i : Nat) : List Ed := (List.range i).flatMap fun j => eone v j (es.getD j (0, 0))
def rowOf (n : Net) (u : Nat) : List (Int × Int) := n.ends.getD u []
def edgesTo (n : Net) (v : Nat) : List Ed := (List.range v).flatMap fun u => erow u (rowOf n u) (rowOf n u).length
def edgesB (n : Net) : List Ed := edgesTo n n.ends.length
theorem erow_succ (v : Nat) (es : List (Int × Int)) (i : Nat) : erow v es (i + 1) = erow v es i ++ eone v i (es.getD i (0, 0)) := by
  unfold erow
  rw [List.range_succ, List.flatMap_append]
  simp
theorem edgesTo_succ (n : Net) (v : Nat) : edgesTo n (v + 1) = edgesTo n v ++ erow v (rowOf n v) (rowOf n v).length := by
  unfold edgesTo
  rw [List.range_succ, List.flatMap_append]
  simp
theorem erow_len (v : Nat) (es : List (Int × Int)) (i : Nat) : (erow v es i).length ≤ i := by
  induction i with
  | zero => simp [erow]
  | succ i ih =>
    rw [erow_succ, List.length_append]
    have : (eone v i (es.getD i (0, 0))).length ≤ 1 := by unfold eone; split <;> simp
    omega
theorem edgesTo_len {n : Net} (hn : netOk n = true) (v : Nat) : (edgesTo n v).length ≤ 6 * v := by
  induction v with
  | zero => simp [edgesTo]
  | succ v ih =>
    rw [edgesTo_succ, List.length_append]
    have h1 := erow_len v (rowOf n v) (rowOf n v).length
    have h2 : (rowOf n v).length ≤ 6 := by
      unfold rowOf
      rw [List.getD_eq_getElem?_getD]
      cases h : n.ends[v]? with
      | none => simp
      | some es => exact (netOk_row hn h).1
    omega
theorem mem_edges {n : Net} {e : Ed} : e ∈ edgesB n ↔ ∃ v i, v < n.ends.length ∧ i < (rowOf n v).length ∧ keepE v i ((rowOf n v).getD i (0, 0)) = true ∧ e = ((v : Int), (i : Int), ((rowOf n v).getD i (0, 0)).1, ((rowOf n v).getD i (0, 0)).2) := by
  unfold edgesB edgesTo erow
  simp only [List.mem_flatMap, List.mem_range]
  constructor
  · rintro ⟨v, hv, i, hi, he⟩
    unfold eone at he
    split at he
    · rename_i hk
      exact ⟨v, i, hv, hi, hk, by simpa using he⟩
    · simp at he
  · rintro ⟨v, i, hv, hi, hk, rfl⟩
    exact ⟨v, hv, i, hi, by unfold eone; rw [if_pos hk]; simp⟩
theorem getD_mem' {xs : List (Int × Int)} {i : Nat} (h : i < xs.length) : xs.getD i (0, 0) ∈ xs := by
  have e : xs.getD i (0, 0) = xs[i] := by simp [h]
  rw [e]
  exact List.getElem_mem h
def pLoop (e : Ed) : Bool := e.1 == e.2.2.1
def plainB (n : Net) : Bool := (List.range n.ends.length).all fun v => !hasB (bsee n (v : Int)) (v : Int)
theorem loops_plain {n : Net} (hn : netOk n = true) : (edgesB n).any pLoop = !plainB n := by
  rw [Bool.eq_iff_iff]
  unfold plainB
  rw [Bool.not_eq_true', ← Bool.not_eq_true, List.all_eq_true, List.any_eq_true]
  constructor
  · rintro ⟨e, he, hp⟩ hall
    obtain ⟨v, i, hv, hi, hk, rfl⟩ := mem_edges.1 he
    have := hall v (List.mem_range.2 hv)
    unfold pLoop at hp
    simp only [beq_iff_eq] at hp
    have hm : hasB (bsee n (v : Int)) (v : Int) = true := by
      unfold hasB bsee
      rw [List.contains_iff_mem, Int.toNat_natCast]
      exact List.mem_map.2 ⟨(rowOf n v).getD i (0, 0), getD_mem' hi, hp.symm⟩
    rw [hm] at this
    cases this
  · intro hnall
    obtain ⟨v, hv⟩ := Classical.not_forall.1 hnall
    obtain ⟨hv1, hv2⟩ := Classical.not_imp.1 hv
    have hv1 := List.mem_range.1 hv1
    have hm : hasB (bsee n (v : Int)) (v : Int) = true := by simpa using hv2
    unfold hasB bsee at hm
    rw [List.contains_iff_mem, Int.toNat_natCast] at hm
    obtain ⟨e, he, hev⟩ := List.mem_map.1 hm
    obtain ⟨i, hi, hie⟩ := List.getElem_of_mem he
    have hi' : i < (rowOf n v).length := hi
    have hgd : (rowOf n v).getD i (0, 0) = e := by
      have : (rowOf n v).getD i (0, 0) = (rowOf n v)[i] := by simp [hi']
      rw [this]
      exact hie
    have hp : hasPortB n.ends (v : Int) (i : Int) = true := by
      unfold hasPortB
      rw [Bool.and_eq_true]
      refine ⟨inB_iff.2 (by omega), inB_iff.2 ?_⟩
      rw [Int.toNat_natCast]
      have : i < (n.ends.getD v []).length := hi'
      omega
    obtain ⟨hq1, hq2⟩ := netOk_end hn hp
    have hat : endAt n.ends (v : Int) (i : Int) = e := by
      unfold endAt
      rw [Int.toNat_natCast, Int.toNat_natCast]
      exact hgd
    rw [hat] at hq1 hq2
    rw [hev] at hq1 hq2
    unfold hasPortB at hq1
    rw [Bool.and_eq_true] at hq1
    have hb := inB_iff.1 hq1.2
    rw [Int.toNat_natCast] at hb
    obtain ⟨p, hpe⟩ := Int.eq_ofNat_of_zero_le hb.1
    rw [hpe] at hq2 hb
    have hpl : p < (rowOf n v).length := by
      show p < (n.ends.getD v []).length
      omega
    have hat2 : (rowOf n v).getD p (0, 0) = ((v : Int), (i : Int)) := by
      unfold endAt at hq2
      rw [Int.toNat_natCast, Int.toNat_natCast] at hq2
      exact hq2
    by_cases hle : i ≤ p
    · refine ⟨_, mem_edges.2 ⟨v, i, hv1, hi', ?_, rfl⟩, ?_⟩
      · rw [hgd]
        unfold keepE
        rw [hev, hpe]
        simp [hle]
      · show ((v : Int) == ((rowOf n v).getD i (0, 0)).1) = true
        rw [hgd, hev]
        simp
    · refine ⟨_, mem_edges.2 ⟨v, p, hv1, hpl, ?_, rfl⟩, ?_⟩
      · rw [hat2]
        unfold keepE
        simp
        omega
      · show ((v : Int) == ((rowOf n v).getD p (0, 0)).1) = true
        rw [hat2]
        simp
set_option maxRecDepth 100000 in
set_option maxHeartbeats 4000000 in
theorem ruPlain_any (ve vi vn : Value) (n : Net) (w : World) (h : NetIn w ve vi vn n) (hn : netOk n = true) :
    Calls Tryz.prog 182 #[.agg #[ve, vi, vn]] w fun e w' => e = .returned (.bool (plainB n)) ∧ Below w.heap.size w w' := by
  obtain ⟨w0, hw0⟩ : ∃ w0, w0 = (w).alloc (.cells #[ve, vi, vn] 31) := ⟨_, rfl⟩
  have hb0 : Below w.heap.size w w0 := by rw [hw0]; exact ((Below.refl _ _).alloc (by simp) _)
  have H := Lib.hid (h.keep hb0)
  obtain ⟨h1, h2, h3⟩ := h.keep hb0
  obtain ⟨A, c, rfl, hlc, hm, hA⟩ := h1
  obtain ⟨A2, c2, rfl, _, hm2, _⟩ := h2
  obtain ⟨A3, c3, rfl, _, hm3, _⟩ := h3
  unfold maxLen at hm hm2 hm3
  have p00 : ∀ W, Since w0 W → W.cell? ⟨w.heap.size, 0, none⟩ = some (.slice A n.ends.length c) := have_cell (by rw [hw0]; simp)
  have p01 : ∀ W, Since w0 W → W.cell? ⟨w.heap.size, 1, none⟩ = some (.slice A2 n.ids.length c2) := have_cell (by rw [hw0]; simp)
  have p02 : ∀ W, Since w0 W → W.cell? ⟨w.heap.size, 2, none⟩ = some (.slice A3 n.inputs.length c3) := have_cell (by rw [hw0]; simp)
  have Hb0 := Lib.hid hb0
  have Hw0 := Lib.hid hw0
  have HA := Lib.hid hA
  clear hA h
  clear hb0 hw0
  have Hn := Lib.hid hn
  have hs0 : Since w0 w0 := since_refl _
  clear hn
  go_enter Tryz.func182, Tryz.ntmps182
  go_upto_region 1 with (fail)
  rw [← Hw0.out]
  go_wp2
  go_loopw [7] (fun i wr => ∃ k : Nat, k ≤ n.ends.length ∧ i = .int .i64 k ∧ ((List.range n.ends.length).take k).all (fun v => !hasB (bsee n (v : Int)) (v : Int)) = true ∧ Since w0 wr) (fun i _ => n.ends.length - (intOf i).toNat)
  case atStart => exact ⟨0, Nat.zero_le _, rfl, rfl, hs0⟩
  case round =>
    obtain ⟨k, hk, rfl, hall, hs⟩ := hrel
    have Hall := Lib.hid hall
    clear hall hs0
    by_cases hlt : k < n.ends.length
    · obtain ⟨es, hes⟩ := getx n.ends k hlt
      obtain ⟨hes6, -⟩ := netOk_row Hn.out hes
      obtain ⟨see, hsee⟩ : ∃ s, s = bsee n (k : Int) := ⟨_, rfl⟩
      have Hse : Hid (es.map (·.1) = see) := by show _ = _; rw [hsee, bsee, Int.toNat_natCast, List.getD_eq_getElem?_getD, hes]; rfl
      have hcall0 := neNear_any _ _ _ n k es wr (H.out.keep hs.below) hes (by omega)
      rw [Hse.out] at hcall0
      have Hcall0 := Lib.hid hcall0
      have hkr : (List.range n.ends.length)[k]? = some k := by simp [hlt]
      have Hkr := Lib.hid hkr
      obtain ⟨y, hy⟩ : ∃ y, y = hasB see (k : Int) := ⟨_, rfl⟩
      have Hy : Hid (hasB (bsee n (k : Int)) (k : Int) = y) := by show _ = _; rw [hy, hsee]
      have Hy2 := Lib.hid hy
      clear hes hkr hcall0 hsee hy
      go_wp2_with fail
      refine Hcall0.out.mono ?_
      rintro e w1 ⟨u, rfl, ho, hb⟩
      have hcall := l1Has_any _ _ (k : Int) w1 ho.ints
      rw [← Hy2.out] at hcall
      have Hcall := Lib.hid hcall
      have Hs1 := Lib.hid (Since.trans hs hb)
      obtain ⟨Bu, du, rfl, _⟩ := id ho.ints
      clear hcall ho hb hs
      go_wp2_with fail
      refine Hcall.out.mono ?_
      rintro e w2 ⟨rfl, rfl⟩
      cases y
      · have Hp : Hid (((List.range n.ends.length).take (k + 1)).all (fun v => !hasB (bsee n (v : Int)) (v : Int)) = true) := by
          show _ = _
          rw [take_snoc Hkr.out, List.all_append, Hall.out]
          simp [Hy.out]
        go_wp2
        go_roundw
        case rel => exact ⟨k + 1, by omega, by go_num, Hp.out, Hs1.out⟩
        case measure => simp [intOf]; omega
      · have Hr : Hid (plainB n = false) := by show _ = _; exact all_stop Hkr.out (by rw [Hy.out]; rfl)
        go_wp2
        go_ret
        exact ⟨congrArg (fun b => Ending.returned (.bool b)) Hr.out.symm, Since.after Hb0.out Hs1.out⟩
    · obtain rfl : k = n.ends.length := by omega
      have Hr : Hid (plainB n = true) := by
        show _ = _
        have := Hall.out
        rwa [List.take_of_length_le (by simp)] at this
      go_wp2
      go_ret
      exact ⟨congrArg (fun b => Ending.returned (.bool b)) Hr.out.symm, Since.after Hb0.out hs⟩
end Go.Proofs.YtlfehdikgbgloaaGreat
namespace Go.Proofs.YtlfehdikgbgloaaGreat
open Go.RowKit
set_option maxRecDepth 100000 in
set_option maxHeartbeats 4000000 in
theorem edges_any (ve vi vn : Value) (n : Net) (w : World) (h : NetIn w ve vi vn n) (hn : netOk n = true) :
    Calls Tryz.prog 93 #[.agg #[ve, vi, vn]] w fun e w' => ∃ u, e = .returned u ∧ OwnD w' w.heap.size u (edgesB n) ∧ Below w.heap.size w w' := by
  have hn40 := (netOk_len hn).2
  obtain ⟨w0, hw0⟩ : ∃ w0, w0 = (w).alloc (.cells #[ve, vi, vn] 31) := ⟨_, rfl⟩
  have hb0 : Below w.heap.size w w0 := by rw [hw0]; exact ((Below.refl _ _).alloc (by simp) _)
  have H := Lib.hid (h.keep hb0)
  obtain ⟨h1, h2, h3⟩ := h.keep hb0
  obtain ⟨A, c, rfl, hlc, hm, hA⟩ := h1
  obtain ⟨A2, c2, rfl, _, hm2, _⟩ := h2
  obtain ⟨A3, c3, rfl, _, hm3, _⟩ := h3
  unfold maxLen at hm hm2 hm3
  have p00 : ∀ W, Since w0 W → W.cell? ⟨w.heap.size, 0, none⟩ = some (.slice A n.ends.length c) := have_cell (by rw [hw0]; simp)
  have p01 : ∀ W, Since w0 W → W.cell? ⟨w.heap.size, 1, none⟩ = some (.slice A2 n.ids.length c2) := have_cell (by rw [hw0]; simp)
  have p02 : ∀ W, Since w0 W → W.cell? ⟨w.heap.size, 2, none⟩ = some (.slice A3 n.inputs.length c3) := have_cell (by rw [hw0]; simp)
  have Hb0 := Lib.hid hb0
  have Hw0 := Lib.hid hw0
  have HA := Lib.hid hA
  clear hA h
  clear hb0 hw0
  have Hn := Lib.hid hn
  have hs0 : Since w0 w0 := since_refl _
  clear hn
  go_enter Tryz.func93, Tryz.ntmps93
  go_upto_region 1 with (fail)
  rw [← Hw0.out]
  go_wp2
  go_loopw [3, 11] (fun u i wr => ∃ k : Nat, k ≤ n.ends.length ∧ i = .int .i64 k ∧ OwnD wr w0.heap.size u (edgesTo n k) ∧ Since w0 wr) (fun _ i _ => n.ends.length - (intOf i).toNat)
  case atStart => exact ⟨0, Nat.zero_le _, rfl, by simpa [edgesTo] using ownD_nil _ w0.heap.size, hs0⟩
  case round =>
    obtain ⟨k, hk, rfl, ho, hs⟩ := hrel
    have Ho := Lib.hid ho
    have Hs := Lib.hid hs
    clear hs0 ho hs
    by_cases hlt : k < n.ends.length
    · obtain ⟨es, hes⟩ := getx n.ends k hlt
      obtain ⟨hes6, -⟩ := netOk_row Hn.out hes
      have Hrow : Hid (rowOf n k = es) := by show _ = _; rw [rowOf, List.getD_eq_getElem?_getD, hes]; rfl
      obtain ⟨b, offr, cr, ur, hA1, hkr, hc1, hrow⟩ := row_at H.out.es hes
      cases hA1
      obtain ⟨A1, z1, rfl, hz1, hz2, hA1⟩ := hrow
      unfold maxLen at hz2
      have HA1 := Lib.hid hA1
      have r1 := lift_cell (have_cell hc1) Hs.out
      have q5 := r1 wr (since_refl _)
      have q0 := p00 wr Hs.out
      have hel := edgesTo_len Hn.out k
      have Hel := Lib.hid hel
      clear hes hc1 hA1 hel
      go_wp2
      go_loopw [3, 18] (fun u i wr => ∃ j : Nat, j ≤ es.length ∧ i = .int .i64 j ∧ OwnD wr w0.heap.size u (edgesTo n k ++ erow k es j) ∧ Since w0 wr) (fun _ i _ => es.length - (intOf i).toNat)
      case atStart => exact ⟨0, Nat.zero_le _, rfl, by simpa [erow] using Ho.out, Hs.out⟩
      case round =>
        obtain ⟨j, hj, rfl, ho, hs⟩ := hrel
        have Ho2 := Lib.hid ho
        have Hs2 := Lib.hid hs
        clear ho hs
        by_cases hlj : j < es.length
        · obtain ⟨⟨x1, x2⟩, hx⟩ := getx es j hlj
          obtain ⟨b1, off1, rfl, hd1, hd2⟩ := HA1.out j _ hx
          have t1 := have_cell hd1 wr Hs2.out
          have t2 := have_cell hd2 wr Hs2.out
          have Hgd : Hid (es.getD j (0, 0) = (x1, x2)) := getD_of hx
          obtain ⟨w8, hw8⟩ : ∃ w8, w8 = wr.alloc (.cells #[.int .i64 x1, .int .i64 x2] 96) := ⟨_, rfl⟩
          obtain ⟨be, hbe⟩ : ∃ be, be = wr.heap.size := ⟨_, rfl⟩
          have d0 : ∀ W, Since w8 W → W.cell? ⟨be, 0, none⟩ = some (.int .i64 x1) := have_cell (by rw [hw8, hbe]; simp)
          have d1 : ∀ W, Since w8 W → W.cell? ⟨be, 1, none⟩ = some (.int .i64 x2) := have_cell (by rw [hw8, hbe]; simp)
          have Ho8 : Hid (OwnD w8 w0.heap.size u3 (edgesTo n k ++ erow k es j)) := by rw [hw8]; exact Ho2.out.keep (since_alloc _ (since_refl _))
          have Hs8 : Hid (Since w0 w8) := by rw [hw8]; exact since_alloc _ Hs2.out
          have Hw8 := Lib.hid hw8
          have Hbe := Lib.hid hbe
          have m3 : IntKind.i64.wrap ((j : Int) + 1) = (j : Int) + 1 := wr64 _ (by omega) (by omega)
          clear hx hd1 hd2 hw8 hbe
          go_upto_region 8 with (fail)
          rw [← Hw8.out, ← Hbe.out]
          clear t1 t2
          refine wp_region_flow0 16 (Since w8) (since_refl _) ?_
          simp only [List.take_succ_cons, List.take_zero, List.drop_succ_cons, List.drop_zero]
          refine flow_val (v := ?_) rfl ?_ ?_; rotate_left; (intro W hW; go_simp; with_reducible rfl)
          simp only [Act.put, List.setIfInBounds_toArray, List.set_cons_succ, List.set_cons_zero]
          refine flow_val (v := ?_) rfl ?_ ?_; rotate_left; (intro W hW; go_simp; with_reducible rfl)
          simp only [Act.put, List.setIfInBounds_toArray, List.set_cons_succ, List.set_cons_zero]
          refine flow_val (v := ?_) rfl ?_ ?_; rotate_left; (intro W hW; go_simp; with_reducible rfl)
          simp only [Act.put, List.setIfInBounds_toArray, List.set_cons_succ, List.set_cons_zero]
          refine flow_val (v := ?_) rfl ?_ ?_; rotate_left; (intro W hW; go_simp; with_reducible rfl)
          simp only [Act.put, List.setIfInBounds_toArray, List.set_cons_succ, List.set_cons_zero]
          refine flow_val (v := ?_) rfl ?_ ?_; rotate_left; (intro W hW; go_simp; with_reducible rfl)
          simp only [Act.put, List.setIfInBounds_toArray, List.set_cons_succ, List.set_cons_zero]
          refine flow_gval (v := ?_) rfl rfl ?_ ?_; rotate_left; (intro hb W hW; go_simp; with_reducible rfl)
          simp only [Act.put, List.setIfInBounds_toArray, List.set_cons_succ, List.set_cons_zero]
          refine flow_gval (v := ?_) rfl rfl ?_ ?_; rotate_left; (intro hb W hW; go_simp; with_reducible rfl)
          simp only [Act.put, List.setIfInBounds_toArray, List.set_cons_succ, List.set_cons_zero]
          refine flow_gval (v := ?_) rfl rfl ?_ ?_; rotate_left; (intro hb W hW; go_simp; with_reducible rfl)
          simp only [Act.put, List.setIfInBounds_toArray, List.set_cons_succ, List.set_cons_zero]
          refine flow_gval (v := ?_) rfl rfl ?_ ?_; rotate_left; (intro hb W hW; go_simp; with_reducible rfl)
          simp only [Act.put, List.setIfInBounds_toArray, List.set_cons_succ, List.set_cons_zero]
          refine flow_gval (v := ?_) rfl rfl ?_ ?_; rotate_left; (intro hb W hW; go_simp; with_reducible rfl)
          simp only [Act.put, List.setIfInBounds_toArray, List.set_cons_succ, List.set_cons_zero]
          refine flow_gval2 (v := ?_) rfl rfl ?_ ?_; rotate_left; (intro hb hb2 W hW; go_simp; with_reducible rfl)
          simp only [Act.put, List.setIfInBounds_toArray, List.set_cons_succ, List.set_cons_zero]
          refine flow_gval2 (v := ?_) rfl rfl ?_ ?_; rotate_left; (intro hb hb2 W hW; go_simp; with_reducible rfl)
          simp only [Act.put, List.setIfInBounds_toArray, List.set_cons_succ, List.set_cons_zero]
          refine flow_gval2 (v := ?_) rfl rfl ?_ ?_; rotate_left; (intro hb hb2 W hW; go_simp; with_reducible rfl)
          simp only [Act.put, List.setIfInBounds_toArray, List.set_cons_succ, List.set_cons_zero]
          refine flow_gval2 (v := ?_) rfl rfl ?_ ?_; rotate_left; (intro hb hb2 W hW; go_simp; with_reducible rfl)
          simp only [Act.put, List.setIfInBounds_toArray, List.set_cons_succ, List.set_cons_zero]
          refine flow_gand rfl rfl rfl ?_
          simp only [Act.put, List.setIfInBounds_toArray, List.set_cons_succ, List.set_cons_zero]
          first | refine flow_or rfl rfl ?_ | (refine flow_val (v := ?_) rfl ?_ ?_; rotate_left; (intro W hW; go_simp; with_reducible rfl))
          simp only [Act.put, List.setIfInBounds_toArray, List.set_cons_succ, List.set_cons_zero]
          intro W hW
          have HsW := Lib.hid (Hs8.out.after hW)
          have HoW := Lib.hid (Ho8.out.keep hW)
          have c0 := d0 W hW
          have c1 := d1 W hW
          have Hlen : Hid ((edgesTo n k ++ erow k es j).length + 1 ≤ 1000000) := by
            have h1 := Hel.out
            have h2 := erow_len k es j
            show _ ≤ _
            rw [List.length_append]
            omega
          have Hnx : Hid (edgesTo n k ++ erow k es (j + 1) = (edgesTo n k ++ erow k es j) ++ eone k j (x1, x2)) := by show _ = _; rw [erow_succ, Hgd.out, List.append_assoc]
          cases hg : (decide ((k : Int) < x1) || ((k : Int) == x1 && decide ((j : Int) ≤ x2)))
          · have Hno : Hid (eone k j (x1, x2) = []) := by show _ = _; unfold eone; rw [if_neg]; rw [show keepE k j (x1, x2) = false from hg]; simp
            clear hg hW d0 d1 c0 c1
            go_wp2
            go_roundw
            case rel => exact ⟨j + 1, by omega, by go_num, by rw [Hnx.out, Hno.out, List.append_nil]; exact HoW.out, HsW.out⟩
            case measure => simp [intOf]; omega
          · have Hyes : Hid (eone k j (x1, x2) = [((k : Int), (j : Int), x1, x2)]) := by show _ = _; unfold eone; rw [if_pos (show keepE k j (x1, x2) = true from hg)]
            clear hg hW d0 d1
            go_wp2_with (at_builtin; refine app_edge rfl _ _ rfl rfl (HoW.out.keep (since_alloc _ (since_refl _))) W.heap.size ((k : Int), (j : Int), x1, x2) rfl (by simp [go_sem]) (by simp [go_sem]) (by simp [go_sem]) (by simp [go_sem]) Hlen.out (since_alloc _ HsW.out) ?_; intro g9 c9 w9 ho9 hs9)
            have Ho9 := Lib.hid ho9
            have Hs9 := Lib.hid hs9
            clear ho9 hs9 c0 c1
            go_wp2
            go_roundw
            case rel => exact ⟨j + 1, by omega, by go_num, by rw [Hnx.out, Hyes.out]; have := Ho9.out; first | exact this | (rw [List.length_append] at this; exact this), Hs9.out⟩
            case measure => simp [intOf]; omega
        · obtain rfl : j = es.length := by omega
          have Hnx : Hid (edgesTo n (k + 1) = edgesTo n k ++ erow k es es.length) := by show _ = _; rw [edgesTo_succ, Hrow.out]
          have m3 : IntKind.i64.wrap ((k : Int) + 1) = (k : Int) + 1 := wr64 _ (by omega) (by omega)
          go_wp2
          go_roundw
          case rel => exact ⟨k + 1, by omega, by go_num, by rw [Hnx.out]; exact Ho2.out, Hs2.out⟩
          case measure => simp [intOf]; omega
    · obtain rfl : k = n.ends.length := by omega
      go_wp2
      go_ret
      exact ⟨_, rfl, Ho.out.mono Hb0.out.size, Since.after Hb0.out Hs.out⟩
set_option maxHeartbeats 1000000 in
theorem loop1_any (x : Ed) (w : World) : Calls Tryz.prog 216 #[.agg #[.int .i64 x.1, .int .i64 x.2.1, .int .i64 x.2.2.1, .int .i64 x.2.2.2]] w fun e w' => e = .returned (.bool (pLoop x)) ∧ Below w.heap.size w w' := by
  unfold pLoop
  obtain ⟨a, b, c, d⟩ := x
  go_enter Tryz.func216, Tryz.ntmps216
  go_wp2
  go_ret
  exact ⟨rfl, below_alloc _ _⟩
theorem loop1_enters : ∀ args w, (callFunc 216 args).run Tryz.prog w = .ok (.enter 216 args) w := enters_of Tryz.func216 (by kernel_rfl) rfl
set_option maxHeartbeats 2000000 in
theorem hasLoops_any (ve vi vn : Value) (n : Net) (w : World) (h : NetIn w ve vi vn n) (hn : netOk n = true) :
    Calls Tryz.prog 190 #[.agg #[ve, vi, vn]] w fun e w' => e = .returned (.bool (!plainB n)) ∧ Below w.heap.size w w' := by
  obtain ⟨w0, hw0⟩ : ∃ w0, w0 = (w).alloc (.cells #[ve, vi, vn] 31) := ⟨_, rfl⟩
  have hb0 : Below w.heap.size w w0 := by rw [hw0]; exact ((Below.refl _ _).alloc (by simp) _)
  have H := Lib.hid (h.keep hb0)
  obtain ⟨h1, h2, h3⟩ := h.keep hb0
  obtain ⟨A, c, rfl, hlc, hm, hA⟩ := h1
  obtain ⟨A2, c2, rfl, _, hm2, _⟩ := h2
  obtain ⟨A3, c3, rfl, _, hm3, _⟩ := h3
  unfold maxLen at hm hm2 hm3
  have p00 : ∀ W, Since w0 W → W.cell? ⟨w.heap.size, 0, none⟩ = some (.slice A n.ends.length c) := have_cell (by rw [hw0]; simp)
  have p01 : ∀ W, Since w0 W → W.cell? ⟨w.heap.size, 1, none⟩ = some (.slice A2 n.ids.length c2) := have_cell (by rw [hw0]; simp)
  have p02 : ∀ W, Since w0 W → W.cell? ⟨w.heap.size, 2, none⟩ = some (.slice A3 n.inputs.length c3) := have_cell (by rw [hw0]; simp)
  have Hb0 := Lib.hid hb0
  have Hw0 := Lib.hid hw0
  have HA := Lib.hid hA
  clear hA h
  clear hb0 hw0
  have Hn := Lib.hid hn
  have Hlp := Lib.hid (loops_plain hn)
  obtain ⟨y, hy⟩ : ∃ y, y = !plainB n := ⟨_, rfl⟩
  have Hy := Lib.hid hy
  rw [← hy]
  clear hy
  have hs0 : Since w0 w0 := since_refl _
  clear hn
  go_enter Tryz.func190, Tryz.ntmps190
  go_upto_region 1 with (fail)
  rw [← Hw0.out]
  go_wp2_with fail
  refine (edges_any _ _ _ n w0 H.out Hn.out).mono ?_
  rintro e w1 ⟨u, rfl, ho, hb⟩
  have hcall := containsFuncD_any u (edgesB n) 216 #[] pLoop w1 ho.read loop1_enters (fun x _ w _ => loop1_any x w)
  rw [Hlp.out] at hcall
  rw [← Hy.out] at hcall
  have Hcall := Lib.hid hcall
  have Hs1 : Hid (Since w0 w1) := hb
  obtain ⟨Bu, du, rfl, _⟩ := id ho.read
  clear hcall ho hb hs0
  go_wp2_with fail
  refine Hcall.out.mono ?_
  rintro e w2 ⟨rfl, hb2⟩
  have Hs2 := Lib.hid (Hs1.out.trans hb2)
  clear hb2
  go_wp2
  go_ret
  exact ⟨rfl, Since.after Hb0.out Hs2.out⟩
end Go.Proofs.YtlfehdikgbgloaaGreat
