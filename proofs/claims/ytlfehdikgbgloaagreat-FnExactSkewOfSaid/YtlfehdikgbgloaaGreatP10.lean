/- Parts of the proof: walks of functions and plain laws. -/
import Derived.Test.YtlfehdikgbgloaaGreatP9
import Derived.ArgAppend
import Derived.Test.YtlfehdikgbgloaaGreatP7
import Derived.Laws.CopyOwn
import Derived.Shelf.Bits.Mul64
import Derived.Test.YtlfehdikgbgloaaGreatP0
import Derived.LoopN
import Derived.RangeFuncNested
import Derived.RangeFuncBound
import Derived.RangeFuncCalls
import Derived.RangeFuncLeaves
import Derived.RangeFuncBox
import Derived.Shelf.Abstract
import Derived.Shelf.RegionOpen
import Derived.OwnWalkIn
import Derived.TacticsInMore
import Derived.LoopNIn
import Derived.LoopIn
import Derived.Test.YtlfehdikgbgloaaGreatP1
import Derived.Test.YtlfehdikgbgloaaGreatP8
import Derived.Test.YtlfehdikgbgloaaGreatP4
import Derived.Test.YtlfehdikgbgloaaGreatP5
namespace Go.Proofs.YtlfehdikgbgloaaGreat
open Go.RowKit
/-! edges: rows of four integers -/
abbrev Ed := Int × Int × Int × Int
def encD (e : Ed) : List Value := [.int .i64 e.1, .int .i64 e.2.1, .int .i64 e.2.2.1, .int .i64 e.2.2.2]
theorem edge_info : (Tryz.prog.info? 112).map (fun i => (i.zero, i.size, i.bytes)) = some (some (.agg #[.int .i64 0, .int .i64 0, .int .i64 0, .int .i64 0]), 4, 32) := by kernel_rfl
def OwnD (w : World) (base : Nat) (v : Value) (xs : List Ed) : Prop := w.ownsRow base 112 4 v xs.length (xs.flatMap encD)
theorem encD_get : ∀ {xs : List Ed} {k : Nat} {x : Ed}, xs[k]? = some x → (xs.flatMap encD)[k * 4]? = some (.int .i64 x.1) ∧ (xs.flatMap encD)[k * 4 + 1]? = some (.int .i64 x.2.1) ∧ (xs.flatMap encD)[k * 4 + 2]? = some (.int .i64 x.2.2.1) ∧ (xs.flatMap encD)[k * 4 + 3]? = some (.int .i64 x.2.2.2)
  | [], _, _, h => by simp at h
  | y :: xs, 0, x, h => by simp at h; subst h; simp [encD]
  | y :: xs, k + 1, x, h => by
    obtain ⟨h1, h2, h3, h4⟩ := encD_get (xs := xs) (k := k) (x := x) (by simpa using h)
    have e : ∀ j, ((y :: xs).flatMap encD)[(k + 1) * 4 + j]? = (xs.flatMap encD)[k * 4 + j]? := fun j => by
      rw [List.flatMap_cons, List.getElem?_append_right (by simp [encD]; omega)]
      congr 1
      simp [encD]; omega
    exact ⟨(e 0).trans h1, (e 1).trans h2, (e 2).trans h3, (e 3).trans h4⟩
theorem OwnD.keep {w w' : World} {base : Nat} {v : Value} {xs : List Ed} (h : OwnD w base v xs) (hb : Since w w') : OwnD w' base v xs := ownsRow_stable h fun k hk => hb.below.block k (World.ownsRow.lt h k (by simpa using hk)).2
theorem OwnD.mono {w : World} {base base' : Nat} {v : Value} {xs : List Ed} (h : OwnD w base v xs) (hb : base' ≤ base) : OwnD w base' v xs := ownsRow_mono h hb
theorem ownD_nil (w : World) (base : Nat) : OwnD w base (.slice none 0 0) [] := World.ownsRow_nil w base _ _
/-- a row of edges, for reading -/
def EdgeS (W : World) (v : Value) (xs : List Ed) : Prop := ∃ A c, v = .slice A xs.length c ∧ c ≤ maxLen ∧ xs.length ≤ c ∧ ∀ k x, xs[k]? = some x → ∃ b, A = some ⟨b, 0, none⟩ ∧ W.cell? ⟨b, k * 4, none⟩ = some (.int .i64 x.1) ∧ W.cell? ⟨b, k * 4 + 1, none⟩ = some (.int .i64 x.2.1) ∧ W.cell? ⟨b, k * 4 + 2, none⟩ = some (.int .i64 x.2.2.1) ∧ W.cell? ⟨b, k * 4 + 3, none⟩ = some (.int .i64 x.2.2.2)
theorem OwnD.read {w : World} {base : Nat} {v : Value} {xs : List Ed} (h : OwnD w base v xs) : EdgeS w v xs := by
  have h' := h
  rcases h.2 with ⟨rfl, hn⟩ | ⟨g, cap, cur, rfl, hb, hg, hnc, hcm, hsz, htk⟩
  · have : xs = [] := List.eq_nil_of_length_eq_zero hn
    subst this
    exact ⟨none, 0, rfl, Nat.zero_le _, Nat.le_refl _, fun k x hk => by simp at hk⟩
  · refine ⟨_, cap, rfl, hcm, hnc, fun k x hk => ⟨g, rfl, ?_⟩⟩
    obtain ⟨h1, h2, h3, h4⟩ := encD_get hk
    have hkl := lt_of_get hk
    exact ⟨by rw [World.ownsRow.cellAt (cap := cap) h' _ (by omega)]; exact h1, by rw [World.ownsRow.cellAt (cap := cap) h' _ (by omega)]; exact h2, by rw [World.ownsRow.cellAt (cap := cap) h' _ (by omega)]; exact h3, by rw [World.ownsRow.cellAt (cap := cap) h' _ (by omega)]; exact h4⟩
theorem app_edge {w w0 : World} {ops : Array Oper} {rest : List Oper} {o : Oper} {a : Act} {Q : Exit → Act → World → Prop} (hgd : o.guard = none) (s x : Operand)
    (ho : o.op = .call { callee := .builtin .append, args := #[s, x], argTypes := #[109, 109] }) {v : Value} {xs : List Ed} (hs : a.eval s = v) (h : OwnD w w0.heap.size v xs) (b : Nat) (y : Ed)
    (hx : a.eval x = .slice (some ⟨b, 0, none⟩) 1 1) (hc0 : w.cell? ⟨b, 0, none⟩ = some (.int .i64 y.1)) (hc1 : w.cell? ⟨b, 1, none⟩ = some (.int .i64 y.2.1)) (hc2 : w.cell? ⟨b, 2, none⟩ = some (.int .i64 y.2.2.1)) (hc3 : w.cell? ⟨b, 3, none⟩ = some (.int .i64 y.2.2.2)) (hl : xs.length + 1 ≤ 1000000) (hsn : Since w0 w)
    (k : ∀ g cap w', OwnD w' w0.heap.size (.slice (some ⟨g, 0, none⟩) (xs.length + 1) cap) (xs ++ [y]) → Since w0 w' → wpList Tryz.prog ops Q rest (a.put o.dst (.slice (some ⟨g, 0, none⟩) (xs.length + 1) cap)) w') : wpList Tryz.prog ops Q (o :: rest) a w := by
  obtain ⟨i0, hi, hz0, hz1, hz2⟩ := info_parts edge_info
  refine wpList_append_lies w hgd s x 109 ho w0.heap.size 112 i0 _ 4 32 Tryz.underlying109 hi hz0 hz1 hz2 rfl (by decide) v xs.length (xs.flatMap encD) hs h ⟨b, 0, none⟩ 1 1 (encD y) hx rfl
    (by
      intro j u hj
      rw [Go.Addr.add_lit, Nat.zero_add]
      match j, hj with
      | 0, hj => simp [encD] at hj; subst hj; exact hc0
      | 1, hj => simp [encD] at hj; subst hj; exact hc1
      | 2, hj => simp [encD] at hj; subst hj; exact hc2
      | 3, hj => simp [encD] at hj; subst hj; exact hc3
      | j + 4, hj => simp [encD] at hj) (by simp [encD, Value.oneCell']) (by omega) (by unfold maxLen; omega) (by omega) hsn.below.size w.heap.size rfl ?_
  intro g cap w' h1 h2 h3 h4
  refine k g cap w' ?_ (Below.grown hsn h2 hsn.below.size (fun q hq => (World.ownsRow.lt h q hq).1))
  unfold OwnD
  simpa using h1
end Go.Proofs.YtlfehdikgbgloaaGreat
namespace Go.Proofs.YtlfehdikgbgloaaGreat
open Go.RowKit
def keepE (v i : Nat) (e : Int × Int) : Bool := decide ((v : Int) < e.1) || (((v : Int) == e.1) && decide ((i : Int) ≤ e.2))
def eone (v i : Nat) (e : Int × Int) : List Ed := if keepE v i e then [((v : Int), (i : Int), e.1, e.2)] else []
def erow (v : Nat) (es : List (Int × Int)) (i : Nat) : List Ed := (List.range i).flatMap fun j => eone v j (es.getD j (0, 0))
def rowOf (n : Net) (u : Nat) : List (Int × Int) := n.ends.getD u []
def edgesTo (n : Net) (v : Nat) : List Ed := (List.range v).flatMap fun u => erow u (rowOf n u) (rowOf n u).length
def edgesB (n : Net) : List Ed := edgesTo n n.ends.length
theorem erow_succ (v : Nat) (es : List (Int × Int)) (i : Nat) : erow v es (i + 1) = erow v es i ++ eone v i (es.getD i (0, 0)) := by
  unfold erow
  rw [List.range_succ, List.flatMap_append]
  simp
theorem edgesTo_succ (n : Net) (v : Nat) : edgesTo n (v + 1) = edgesTo n v ++ erow v (rowOf n v) (rowOf n v).length := by
  unfold edgesTo
  rw [List.range_succ, List.flatMap_append]
  simp
theorem erow_len (v : Nat) (es : List (Int × Int)) (i : Nat) : (erow v es i).length ≤ i := by
  induction i with
  | zero => simp [erow]
  | succ i ih =>
    rw [erow_succ, List.length_append]
    have : (eone v i (es.getD i (0, 0))).length ≤ 1 := by unfold eone; split <;> simp
    omega
theorem edgesTo_len {n : Net} (hn : netOk n = true) (v : Nat) : (edgesTo n v).length ≤ 6 * v := by
  induction v with
  | zero => simp [edgesTo]
  | succ v ih =>
    rw [edgesTo_succ, List.length_append]
    have h1 := erow_len v (rowOf n v) (rowOf n v).length
    have h2 : (rowOf n v).length ≤ 6 := by
      unfold rowOf
      rw [List.getD_eq_getElem?_getD]
      cases h : n.ends[v]? with
      | none => simp
      | some es => exact (netOk_row hn h).1
    omega
def plainB (n : Net) : Bool := (List.range n.ends.length).all fun v => !hasB (bsee n (v : Int)) (v : Int)
end Go.Proofs.YtlfehdikgbgloaaGreat
namespace Go.Proofs.YtlfehdikgbgloaaGreat
open Go.RowKit
set_option maxRecDepth 100000 in
set_option maxHeartbeats 4000000 in
theorem edges_any (ve vi vn : Value) (n : Net) (w : World) (h : NetIn w ve vi vn n) (hn : netOk n = true) :
    Calls Tryz.prog 93 #[.agg #[ve, vi, vn]] w fun e w' => ∃ u, e = .returned u ∧ OwnD w' w.heap.size u (edgesB n) ∧ Below w.heap.size w w' := by
  have hn40 := (netOk_len hn).2
  obtain ⟨w0, hw0⟩ : ∃ w0, w0 = (w).alloc (.cells #[ve, vi, vn] 31) := ⟨_, rfl⟩
  have hb0 : Below w.heap.size w w0 := by rw [hw0]; exact ((Below.refl _ _).alloc (by simp) _)
  have H := Lib.hid (h.keep hb0)
  obtain ⟨h1, h2, h3⟩ := h.keep hb0
  obtain ⟨A, c, rfl, hlc, hm, hA⟩ := h1
  obtain ⟨A2, c2, rfl, _, hm2, _⟩ := h2
  obtain ⟨A3, c3, rfl, _, hm3, _⟩ := h3
  unfold maxLen at hm hm2 hm3
  have p00 : ∀ W, Since w0 W → W.cell? ⟨w.heap.size, 0, none⟩ = some (.slice A n.ends.length c) := have_cell (by rw [hw0]; simp)
  have p01 : ∀ W, Since w0 W → W.cell? ⟨w.heap.size, 1, none⟩ = some (.slice A2 n.ids.length c2) := have_cell (by rw [hw0]; simp)
  have p02 : ∀ W, Since w0 W → W.cell? ⟨w.heap.size, 2, none⟩ = some (.slice A3 n.inputs.length c3) := have_cell (by rw [hw0]; simp)
  have Hb0 := Lib.hid hb0
  have Hw0 := Lib.hid hw0
  have HA := Lib.hid hA
  clear hA h
  clear hb0 hw0
  have Hn := Lib.hid hn
  have hs0 : Since w0 w0 := since_refl _
  clear hn
  go_enter Tryz.func93, Tryz.ntmps93
  go_upto_region 1 with (fail)
  rw [← Hw0.out]
  go_wp2
  go_loopw [3, 11] (fun u i wr => ∃ k : Nat, k ≤ n.ends.length ∧ i = .int .i64 k ∧ OwnD wr w0.heap.size u (edgesTo n k) ∧ Since w0 wr) (fun _ i _ => n.ends.length - (intOf i).toNat)
  case atStart => exact ⟨0, Nat.zero_le _, rfl, by simpa [edgesTo] using ownD_nil _ w0.heap.size, hs0⟩
  case round =>
    obtain ⟨k, hk, rfl, ho, hs⟩ := hrel
    have Ho := Lib.hid ho
    have Hs := Lib.hid hs
    clear hs0 ho hs
    by_cases hlt : k < n.ends.length
    · obtain ⟨es, hes⟩ := getx n.ends k hlt
      obtain ⟨hes6, -⟩ := netOk_row Hn.out hes
      have Hrow : Hid (rowOf n k = es) := by show _ = _; rw [rowOf, List.getD_eq_getElem?_getD, hes]; rfl
      obtain ⟨b, offr, cr, ur, hA1, hkr, hc1, hrow⟩ := row_at H.out.es hes
      cases hA1
      obtain ⟨A1, z1, rfl, hz1, hz2, hA1⟩ := hrow
      unfold maxLen at hz2
      have HA1 := Lib.hid hA1
      have r1 := lift_cell (have_cell hc1) Hs.out
      have q5 := r1 wr (since_refl _)
      have q0 := p00 wr Hs.out
      have hel := edgesTo_len Hn.out k
      have Hel := Lib.hid hel
      clear hes hc1 hA1 hel
      go_wp2
      go_loopw [3, 18] (fun u i wr => ∃ j : Nat, j ≤ es.length ∧ i = .int .i64 j ∧ OwnD wr w0.heap.size u (edgesTo n k ++ erow k es j) ∧ Since w0 wr) (fun _ i _ => es.length - (intOf i).toNat)
      case atStart => exact ⟨0, Nat.zero_le _, rfl, by simpa [erow] using Ho.out, Hs.out⟩
      case round =>
        obtain ⟨j, hj, rfl, ho, hs⟩ := hrel
        have Ho2 := Lib.hid ho
        have Hs2 := Lib.hid hs
        clear ho hs
        by_cases hlj : j < es.length
        · obtain ⟨⟨x1, x2⟩, hx⟩ := getx es j hlj
          obtain ⟨b1, off1, rfl, hd1, hd2⟩ := HA1.out j _ hx
          have t1 := have_cell hd1 wr Hs2.out
          have t2 := have_cell hd2 wr Hs2.out
          have Hgd : Hid (es.getD j (0, 0) = (x1, x2)) := getD_of hx
          obtain ⟨w8, hw8⟩ : ∃ w8, w8 = wr.alloc (.cells #[.int .i64 x1, .int .i64 x2] 96) := ⟨_, rfl⟩
          obtain ⟨be, hbe⟩ : ∃ be, be = wr.heap.size := ⟨_, rfl⟩
          have d0 : ∀ W, Since w8 W → W.cell? ⟨be, 0, none⟩ = some (.int .i64 x1) := have_cell (by rw [hw8, hbe]; simp)
          have d1 : ∀ W, Since w8 W → W.cell? ⟨be, 1, none⟩ = some (.int .i64 x2) := have_cell (by rw [hw8, hbe]; simp)
          have Ho8 : Hid (OwnD w8 w0.heap.size u3 (edgesTo n k ++ erow k es j)) := by rw [hw8]; exact Ho2.out.keep (since_alloc _ (since_refl _))
          have Hs8 : Hid (Since w0 w8) := by rw [hw8]; exact since_alloc _ Hs2.out
          have Hw8 := Lib.hid hw8
          have Hbe := Lib.hid hbe
          have m3 : IntKind.i64.wrap ((j : Int) + 1) = (j : Int) + 1 := wr64 _ (by omega) (by omega)
          clear hx hd1 hd2 hw8 hbe
          go_upto_region 8 with (fail)
          rw [← Hw8.out, ← Hbe.out]
          clear t1 t2
          refine wp_region_flow0 16 (Since w8) (since_refl _) ?_
          simp only [List.take_succ_cons, List.take_zero, List.drop_succ_cons, List.drop_zero]
          refine flow_val (v := ?_) rfl ?_ ?_; rotate_left; (intro W hW; go_simp; with_reducible rfl)
          simp only [Act.put, List.setIfInBounds_toArray, List.set_cons_succ, List.set_cons_zero]
          refine flow_val (v := ?_) rfl ?_ ?_; rotate_left; (intro W hW; go_simp; with_reducible rfl)
          simp only [Act.put, List.setIfInBounds_toArray, List.set_cons_succ, List.set_cons_zero]
          refine flow_val (v := ?_) rfl ?_ ?_; rotate_left; (intro W hW; go_simp; with_reducible rfl)
          simp only [Act.put, List.setIfInBounds_toArray, List.set_cons_succ, List.set_cons_zero]
          refine flow_val (v := ?_) rfl ?_ ?_; rotate_left; (intro W hW; go_simp; with_reducible rfl)
          simp only [Act.put, List.setIfInBounds_toArray, List.set_cons_succ, List.set_cons_zero]
          refine flow_val (v := ?_) rfl ?_ ?_; rotate_left; (intro W hW; go_simp; with_reducible rfl)
          simp only [Act.put, List.setIfInBounds_toArray, List.set_cons_succ, List.set_cons_zero]
          refine flow_gval (v := ?_) rfl rfl ?_ ?_; rotate_left; (intro hb; intro W hW; go_simp; with_reducible rfl)
          simp only [Act.put, List.setIfInBounds_toArray, List.set_cons_succ, List.set_cons_zero]
          refine flow_gval (v := ?_) rfl rfl ?_ ?_; rotate_left; (intro hb; intro W hW; go_simp; with_reducible rfl)
          simp only [Act.put, List.setIfInBounds_toArray, List.set_cons_succ, List.set_cons_zero]
          refine flow_gval (v := ?_) rfl rfl ?_ ?_; rotate_left; (intro hb; intro W hW; go_simp; with_reducible rfl)
          simp only [Act.put, List.setIfInBounds_toArray, List.set_cons_succ, List.set_cons_zero]
          refine flow_gval (v := ?_) rfl rfl ?_ ?_; rotate_left; (intro hb; intro W hW; go_simp; with_reducible rfl)
          simp only [Act.put, List.setIfInBounds_toArray, List.set_cons_succ, List.set_cons_zero]
          refine flow_gval (v := ?_) rfl rfl ?_ ?_; rotate_left; (intro hb; intro W hW; go_simp; with_reducible rfl)
          simp only [Act.put, List.setIfInBounds_toArray, List.set_cons_succ, List.set_cons_zero]
          refine flow_gval2 (v := ?_) rfl rfl ?_ ?_; rotate_left; (intro hb hb2; intro W hW; go_simp; with_reducible rfl)
          simp only [Act.put, List.setIfInBounds_toArray, List.set_cons_succ, List.set_cons_zero]
          refine flow_gval2 (v := ?_) rfl rfl ?_ ?_; rotate_left; (intro hb hb2; intro W hW; go_simp; with_reducible rfl)
          simp only [Act.put, List.setIfInBounds_toArray, List.set_cons_succ, List.set_cons_zero]
          refine flow_gval2 (v := ?_) rfl rfl ?_ ?_; rotate_left; (intro hb hb2; intro W hW; go_simp; with_reducible rfl)
          simp only [Act.put, List.setIfInBounds_toArray, List.set_cons_succ, List.set_cons_zero]
          refine flow_gval2 (v := ?_) rfl rfl ?_ ?_; rotate_left; (intro hb hb2; intro W hW; go_simp; with_reducible rfl)
          simp only [Act.put, List.setIfInBounds_toArray, List.set_cons_succ, List.set_cons_zero]
          refine flow_gand rfl rfl rfl ?_
          simp only [Act.put, List.setIfInBounds_toArray, List.set_cons_succ, List.set_cons_zero]
          first | refine flow_or rfl rfl ?_ | (refine flow_val (v := ?_) rfl ?_ ?_; rotate_left; (intro W hW; go_simp; with_reducible rfl))
          simp only [Act.put, List.setIfInBounds_toArray, List.set_cons_succ, List.set_cons_zero]
          intro W hW
          have HsW := Lib.hid (Hs8.out.after hW)
          have HoW := Lib.hid (Ho8.out.keep hW)
          have c0 := d0 W hW
          have c1 := d1 W hW
          have Hlen : Hid ((edgesTo n k ++ erow k es j).length + 1 ≤ 1000000) := by
            have h1 := Hel.out
            have h2 := erow_len k es j
            show _ ≤ _
            rw [List.length_append]
            omega
          have Hnx : Hid (edgesTo n k ++ erow k es (j + 1) = (edgesTo n k ++ erow k es j) ++ eone k j (x1, x2)) := by show _ = _; rw [erow_succ, Hgd.out, List.append_assoc]
          cases hg : (decide ((k : Int) < x1) || ((k : Int) == x1 && decide ((j : Int) ≤ x2)))
          · have Hno : Hid (eone k j (x1, x2) = []) := by show _ = _; unfold eone; rw [if_neg]; rw [show keepE k j (x1, x2) = false from hg]; simp
            clear hg hW d0 d1 c0 c1
            go_wp2
            go_roundw
            case rel => exact ⟨j + 1, by omega, by go_num, by rw [Hnx.out, Hno.out, List.append_nil]; exact HoW.out, HsW.out⟩
            case measure => simp [intOf]; omega
          · have Hyes : Hid (eone k j (x1, x2) = [((k : Int), (j : Int), x1, x2)]) := by show _ = _; unfold eone; rw [if_pos (show keepE k j (x1, x2) = true from hg)]
            clear hg hW d0 d1
            go_wp2_with (at_builtin; refine app_edge rfl _ _ rfl rfl (HoW.out.keep (since_alloc _ (since_refl _))) W.heap.size ((k : Int), (j : Int), x1, x2) rfl (by simp [go_sem]) (by simp [go_sem]) (by simp [go_sem]) (by simp [go_sem]) Hlen.out (since_alloc _ HsW.out) ?_; intro g9 c9 w9 ho9 hs9)
            have Ho9 := Lib.hid ho9
            have Hs9 := Lib.hid hs9
            clear ho9 hs9 c0 c1
            go_wp2
            go_roundw
            case rel => exact ⟨j + 1, by omega, by go_num, by rw [Hnx.out, Hyes.out]; have := Ho9.out; first | exact this | (rw [List.length_append] at this; exact this), Hs9.out⟩
            case measure => simp [intOf]; omega
        · obtain rfl : j = es.length := by omega
          have Hnx : Hid (edgesTo n (k + 1) = edgesTo n k ++ erow k es es.length) := by show _ = _; rw [edgesTo_succ, Hrow.out]
          have m3 : IntKind.i64.wrap ((k : Int) + 1) = (k : Int) + 1 := wr64 _ (by omega) (by omega)
          go_wp2
          go_roundw
          case rel => exact ⟨k + 1, by omega, by go_num, by rw [Hnx.out]; exact Ho2.out, Hs2.out⟩
          case measure => simp [intOf]; omega
    · obtain rfl : k = n.ends.length := by omega
      go_wp2
      go_ret
      exact ⟨_, rfl, Ho.out.mono Hb0.out.size, Since.after Hb0.out Hs.out⟩
end Go.Proofs.YtlfehdikgbgloaaGreat
namespace Go.Proofs.YtlfehdikgbgloaaGreat
open Go.RowKit
/-! a slice of integers of the call's own that begins anywhere in its row (a queue) -/
def QA (W : World) (base g off cap : Nat) (xs : List Int) : Prop :=
  base ≤ g ∧ xs.length ≤ cap ∧ cap ≤ maxLen ∧ ∃ cur : Array Value, W.heap[g]? = some (.cells cur 3 (0, 0)) ∧ off + cap ≤ cur.size ∧ ∀ j x, xs[j]? = some x → cur[off + j]? = some (.int .i64 x)
theorem QA.cell {W : World} {base g off cap : Nat} {xs : List Int} (h : QA W base g off cap xs) {j : Nat} {x : Int} (hx : xs[j]? = some x) : W.cell? ⟨g, off + j, none⟩ = some (.int .i64 x) := by
  obtain ⟨-, -, -, cur, h1, -, h3⟩ := h
  simp [World.cell?, h1, h3 j x hx]
theorem QA.lt {W : World} {base g off cap : Nat} {xs : List Int} (h : QA W base g off cap xs) : g < W.heap.size := by
  obtain ⟨-, -, -, cur, h1, -⟩ := h
  exact (Array.getElem?_eq_some_iff.1 h1).1
theorem QA.stable {W W' : World} {base g off cap : Nat} {xs : List Int} (h : QA W base g off cap xs) (hs : W'.heap[g]? = W.heap[g]?) : QA W' base g off cap xs := by
  obtain ⟨h1, h2, h3, cur, h4, h5⟩ := h
  exact ⟨h1, h2, h3, cur, hs.trans h4, h5⟩
theorem QA.since {W W' : World} {base g off cap : Nat} {xs : List Int} (h : QA W base g off cap xs) (hs : Since W W') : QA W' base g off cap xs := h.stable (hs.below.block g h.lt)
theorem QA.tail {W : World} {base g off cap : Nat} {x : Int} {xs : List Int} (h : QA W base g off cap (x :: xs)) : QA W base g (off + 1) (cap - 1) xs := by
  obtain ⟨h1, h2, h3, cur, h4, h5, h6⟩ := h
  rw [List.length_cons] at h2
  exact ⟨h1, by omega, by omega, cur, h4, by omega, fun j y hy => by
    have := h6 (j + 1) y (by simpa using hy)
    rwa [show off + (j + 1) = off + 1 + j by omega] at this⟩
theorem QA.nil {W : World} {base g off cap : Nat} {xs : List Int} (h : QA W base g off cap xs) : QA W base g off 0 [] := by
  obtain ⟨h1, h2, h3, cur, h4, h5, h6⟩ := h
  exact ⟨h1, Nat.le_refl _, Nat.zero_le _, cur, h4, by omega, fun j y hy => by simp at hy⟩
theorem QA.one (W : World) (base : Nat) (x : Int) (h : base ≤ W.heap.size) : QA (W.alloc (.cells #[.int .i64 x] 3)) base W.heap.size 0 1 [x] := by
  refine ⟨h, Nat.le_refl _, by simp [maxLen], #[.int .i64 x], ?_, by simp, fun j y hy => ?_⟩
  · show (W.heap.push _)[W.heap.size]? = _
    rw [Array.getElem?_push_size]
  · have := lt_of_get hy
    simp at this
    subst this
    simpa using hy
end Go.Proofs.YtlfehdikgbgloaaGreat
namespace Go.Proofs.YtlfehdikgbgloaaGreat
open Go.RowKit
end Go.Proofs.YtlfehdikgbgloaaGreat
namespace Go.Proofs.YtlfehdikgbgloaaGreat
open Go.RowKit
end Go.Proofs.YtlfehdikgbgloaaGreat
namespace Go.Proofs.YtlfehdikgbgloaaGreat
open Go.RowKit
end Go.Proofs.YtlfehdikgbgloaaGreat
namespace Go.Proofs.YtlfehdikgbgloaaGreat
open Go.RowKit
end Go.Proofs.YtlfehdikgbgloaaGreat
namespace Go.Proofs.YtlfehdikgbgloaaGreat
open Go.RowKit Go.Shelf
attribute [local go_sem] Oper.semAt_some
/-- what a round keeps: the blocks from lo to hi -/
def KeepMid (lo hi : Nat) (W W' : World) : Prop := W.heap.size ≤ W'.heap.size ∧ ∀ k, lo ≤ k → k < hi → W'.heap[k]? = W.heap[k]?
theorem KeepMid.t {lo hi : Nat} {A B C : World} (h : KeepMid lo hi A B) (k : KeepMid lo hi B C) : KeepMid lo hi A C := ⟨Nat.le_trans h.1 k.1, fun i h1 h2 => (k.2 i h1 h2).trans (h.2 i h1 h2)⟩
theorem KeepMid.refl (lo hi : Nat) (W : World) : KeepMid lo hi W W := ⟨Nat.le_refl _, fun _ _ _ => rfl⟩
theorem KeepMid.b {lo hi : Nat} {w : World} (hh : hi ≤ w.heap.size) (W : World) (l : Nat) (o o' : Obj) (hl : w.heap.size ≤ l) (_ : W.heap[l]? = some o) (_ : o.isCells = false) (_ : o.isWalk = false) : KeepMid lo hi W (W.putObj l o') :=
  ⟨(grownBy_putObj' W l o').size, fun k _ hk => by
    rcases Nat.lt_or_ge k W.heap.size with h | h
    · exact (grownBy_putObj' W l o').block k h (fun e => by cases e; omega)
    · exact World.putObj_heap_other (fun e => by omega)⟩
theorem KeepMid.cell {lo hi : Nat} {W W' : World} (h : KeepMid lo hi W W') {a : Addr} {u : Value} (h1 : lo ≤ a.block) (h2 : a.block < hi) (hc : W.cell? a = some u) : W'.cell? a = some u :=
  (World.cell?_of_block (h.2 a.block h1 h2)).trans hc
/-- a range and where it stands -/
abbrev Rng := { x : Nat × Int // 1 ≤ x.2 ∧ x.2 ≤ 100 }
end Go.Proofs.YtlfehdikgbgloaaGreat
namespace Go.Proofs.YtlfehdikgbgloaaGreat
open Go.RowKit Go.Shelf
attribute [local go_sem] Oper.semAt_some
def vals (pre : List Rng) : List Int := pre.map fun x => x.1.2
end Go.Proofs.YtlfehdikgbgloaaGreat
namespace Go.Proofs.YtlfehdikgbgloaaGreat
open Go.RowKit
end Go.Proofs.YtlfehdikgbgloaaGreat
namespace Go.Proofs.YtlfehdikgbgloaaGreat
open Go.RowKit
end Go.Proofs.YtlfehdikgbgloaaGreat
namespace Go.Proofs.YtlfehdikgbgloaaGreat
open Go.RowKit
end Go.Proofs.YtlfehdikgbgloaaGreat
namespace Go.Proofs.YtlfehdikgbgloaaGreat
open Go.RowKit
end Go.Proofs.YtlfehdikgbgloaaGreat
namespace Go.Proofs.YtlfehdikgbgloaaGreat
open Go.RowKit
end Go.Proofs.YtlfehdikgbgloaaGreat
namespace Go.Proofs.YtlfehdikgbgloaaGreat
open Go.RowKit
end Go.Proofs.YtlfehdikgbgloaaGreat
namespace Go.Proofs.YtlfehdikgbgloaaGreat
open Go.RowKit
end Go.Proofs.YtlfehdikgbgloaaGreat
namespace Go.Proofs.YtlfehdikgbgloaaGreat
open Go.RowKit
end Go.Proofs.YtlfehdikgbgloaaGreat
namespace Go.Proofs.YtlfehdikgbgloaaGreat
open Go.RowKit
end Go.Proofs.YtlfehdikgbgloaaGreat
namespace Go.Proofs.YtlfehdikgbgloaaGreat
open Go.RowKit
def connB (n : Net) : Bool := !(distB n 0).contains (-1)
def onesB (xs : List Int) : Nat := xs.countP fun x => x == 1
end Go.Proofs.YtlfehdikgbgloaaGreat
namespace Go.Proofs.YtlfehdikgbgloaaGreat
open Go.RowKit
def rowBad (es : List (Int × Int)) : Bool := ((es.length : Int) != 2) || ((es.getD 0 (0, 0)).2 != 1)
section
variable {α : Type} {p : α → Bool} {xs : List α}
theorem fi_none (h : xs.any p = false) : xs.findIdx? p = none := by
  rw [List.findIdx?_eq_none_iff]
  intro x hx
  rw [List.any_eq_false] at h
  simpa using h x hx
theorem fi_found {k : Nat} {x : α} (hx : xs[k]? = some x) (hp : p x = true) (h : (xs.take k).any p = false) : xs.findIdx? p = some k := by
  obtain ⟨hk, rfl⟩ := List.getElem?_eq_some_iff.1 hx
  rw [List.findIdx?_eq_some_iff_getElem]
  refine ⟨hk, hp, fun j hj => ?_⟩
  rw [List.any_eq_false] at h
  have := h xs[j] (List.mem_take_iff_getElem.2 ⟨j, by omega, rfl⟩)
  simpa using this
theorem any_snoc' {k : Nat} {x : α} (hx : xs[k]? = some x) (h : (xs.take k).any p = false) (hp : p x = false) : (xs.take (k + 1)).any p = false := by
  rw [take_snoc hx, List.any_append, h]
  simp [hp]
end
end Go.Proofs.YtlfehdikgbgloaaGreat
namespace Go.Proofs.YtlfehdikgbgloaaGreat
open Go.RowKit
def ringB (n : Net) : Bool := !n.ends.any rowBad && decide (1 < (n.ends.length : Int)) && ((onesB n.inputs : Int) == 1) && connB n
end Go.Proofs.YtlfehdikgbgloaaGreat
namespace Go.Proofs.YtlfehdikgbgloaaGreat
open Go.RowKit
def runsB (n : Net) (r : Int) : Bool := plainB n && ((r != 5) || ringB n)
end Go.Proofs.YtlfehdikgbgloaaGreat
namespace Go.Proofs.YtlfehdikgbgloaaGreat
open Go.RowKit
def degsB (n : Net) : List Int := n.ends.map fun es => (es.length : Int)
theorem degsB_len (n : Net) : (degsB n).length = n.ends.length := by simp [degsB]
theorem degsB_at {n : Net} {k : Nat} {es : List (Int × Int)} (h : n.ends[k]? = some es) : (degsB n)[k]? = some (es.length : Int) := by simp [degsB, h]
theorem degsB_bd {n : Net} (hn : netOk n = true) : ∀ x ∈ degsB n, 0 ≤ x ∧ x ≤ 6 := by
  intro x hx
  unfold degsB at hx
  obtain ⟨es, hes, rfl⟩ := List.mem_map.1 hx
  obtain ⟨k, hk, hke⟩ := List.getElem_of_mem hes
  have := (netOk_row hn (show n.ends[k]? = some es by rw [List.getElem?_eq_getElem hk, hke])).1
  omega
set_option maxHeartbeats 4000000 in
theorem neDegrees_any (ve vi vn : Value) (n : Net) (w : World) (h : NetIn w ve vi vn n) (hn : netOk n = true) :
    Calls Tryz.prog 173 #[.agg #[ve, vi, vn]] w fun e w' => ∃ u, e = .returned u ∧ Own w' w.heap.size u (degsB n) ∧ Below w.heap.size w w' := by
  have hn40 := (netOk_len hn).2
  obtain ⟨w0, hw0⟩ : ∃ w0, w0 = (w).alloc (.cells #[ve, vi, vn] 31) := ⟨_, rfl⟩
  have hb0 : Below w.heap.size w w0 := by rw [hw0]; exact ((Below.refl _ _).alloc (by simp) _)
  have H := Lib.hid (h.keep hb0)
  obtain ⟨h1, h2, h3⟩ := h.keep hb0
  obtain ⟨A, c, rfl, hlc, hm, hA⟩ := h1
  obtain ⟨A2, c2, rfl, _, hm2, _⟩ := h2
  obtain ⟨A3, c3, rfl, _, hm3, _⟩ := h3
  unfold maxLen at hm hm2 hm3
  have p00 : ∀ W, Since w0 W → W.cell? ⟨w.heap.size, 0, none⟩ = some (.slice A n.ends.length c) := have_cell (by rw [hw0]; simp)
  have p01 : ∀ W, Since w0 W → W.cell? ⟨w.heap.size, 1, none⟩ = some (.slice A2 n.ids.length c2) := have_cell (by rw [hw0]; simp)
  have p02 : ∀ W, Since w0 W → W.cell? ⟨w.heap.size, 2, none⟩ = some (.slice A3 n.inputs.length c3) := have_cell (by rw [hw0]; simp)
  have Hb0 := Lib.hid hb0
  have Hw0 := Lib.hid hw0
  have HA := Lib.hid hA
  clear hA h
  clear hb0 hw0
  have hs0 : Since w0 w0 := since_refl _
  clear hn
  go_enter Tryz.func173, Tryz.ntmps173
  go_upto_region 1 with (fail)
  rw [← Hw0.out]
  go_wp2
  go_loopw [3, 9] (fun u i wr => ∃ k : Nat, k ≤ n.ends.length ∧ i = .int .i64 k ∧ Own wr w0.heap.size u ((degsB n).take k) ∧ Since w0 wr) (fun _ i _ => n.ends.length - (intOf i).toNat)
  case atStart => exact ⟨0, Nat.zero_le _, rfl, by simpa using own_nil _ w0.heap.size, hs0⟩
  case round =>
    obtain ⟨k, hk, rfl, ho, hs⟩ := hrel
    have Ho := Lib.hid ho
    have Hs := Lib.hid hs
    clear hs0 ho hs
    by_cases hlt : k < n.ends.length
    · obtain ⟨es, hes⟩ := getx n.ends k hlt
      obtain ⟨b, offr, cr, ur, hA1, hkr, hc1, hrow⟩ := row_at H.out.es hes
      cases hA1
      obtain ⟨A1, z1, rfl, hz1, hz2, hA1⟩ := hrow
      unfold maxLen at hz2
      have q5 := have_cell hc1 wr Hs.out
      have hd := degsB_at hes
      have Hlen : Hid (((degsB n).take k).length + 1 ≤ 17592186044416) := by show _ ≤ _; rw [List.length_take]; omega
      have Hnx : Hid ((degsB n).take (k + 1) = (degsB n).take k ++ [(es.length : Int)]) := take_snoc hd
      have m3 : IntKind.i64.wrap ((k : Int) + 1) = (k : Int) + 1 := wr64 _ (by omega) (by omega)
      clear hes hc1 hA1 hd
      go_wp2_with (at_builtin; refine app_int_s rfl _ _ rfl rfl (Ho.out.since (since_alloc _ (since_refl _))) wr.heap.size (es.length : Int) rfl (by simp [go_sem]) Hlen.out (since_alloc _ Hs.out) ?_; intro g cc w2 ho2 hs3)
      have Ho2 := Lib.hid ho2
      have Hs2 := Lib.hid hs3
      clear ho2 hs3
      go_wp2
      go_roundw
      case rel => exact ⟨k + 1, by omega, by go_num, by rw [Hnx.out]; have := Ho2.out; first | exact this | (rw [List.length_take] at this; exact this) | (simpa using this), Hs2.out⟩
      case measure => simp [intOf]; omega
    · obtain rfl : k = n.ends.length := by omega
      go_wp2
      go_ret
      exact ⟨_, rfl, by have := Ho.out; rw [List.take_of_length_le (by rw [degsB_len]; exact Nat.le_refl _)] at this; exact this.mono Hb0.out.size, Since.after Hb0.out Hs.out⟩
def mx (a b : Int) : Int := if b < a then a else b
theorem l1Most_any (a b : Int) (w : World) : Calls Tryz.prog 87 #[.int .i64 a, .int .i64 b] w fun e w' => e = .returned (.int .i64 (mx a b)) ∧ w = w' := by
  by_cases h : b < a
  · have hr : mx a b = a := if_pos h
    rw [hr]
    go_enter Tryz.func87, Tryz.ntmps87
    go_wp2
    go_ret
    exact ⟨rfl, rfl⟩
  · have hr : mx a b = b := if_neg h
    rw [hr]
    go_enter Tryz.func87, Tryz.ntmps87
    go_wp2
    go_ret
    exact ⟨rfl, rfl⟩
def mostB (xs : List Int) : Int := xs.foldl mx 0
end Go.Proofs.YtlfehdikgbgloaaGreat
namespace Go.Proofs.YtlfehdikgbgloaaGreat
open Go.RowKit
theorem mostB_bd {c : Int} : ∀ (xs : List Int) (a : Int), 0 ≤ a → a ≤ c → (∀ x ∈ xs, 0 ≤ x ∧ x ≤ c) → 0 ≤ xs.foldl mx a ∧ xs.foldl mx a ≤ c
  | [], a, h0, h1, _ => ⟨h0, h1⟩
  | x :: xs, a, h0, h1, h => by
    have hx := h x (by simp)
    have hm : 0 ≤ mx a x ∧ mx a x ≤ c := by unfold mx; split <;> omega
    exact mostB_bd xs (mx a x) hm.1 hm.2 (fun y hy => h y (List.mem_cons_of_mem _ hy))
theorem mx_max (q x : Int) : mx q x = max q x := by unfold mx; rw [Int.max_def]; split <;> split <;> omega
def countB (n : Net) (r : Int) (v : Nat) : Int := if r = 2 then mostB (degsB n) + 1 else if r = 3 then 2 else if r = 4 then ((n.ends.getD v []).length : Int) + 1 else (n.ends.length : Int) + 1
theorem most_degs {n : Net} (hn : netOk n = true) : 0 ≤ mostB (degsB n) ∧ mostB (degsB n) ≤ 6 := mostB_bd (degsB n) 0 (Int.le_refl _) (by omega) (degsB_bd hn)
end Go.Proofs.YtlfehdikgbgloaaGreat
namespace Go.Proofs.YtlfehdikgbgloaaGreat
open Go.RowKit
end Go.Proofs.YtlfehdikgbgloaaGreat
namespace Go.Proofs.YtlfehdikgbgloaaGreat
open Go.RowKit
/-! the plain tests of machines and states of asynchronous runs -/
def macLens2 (m : Mac) : Bool := ((m.start.length : Int) == m.degree + 1) && ((m.send.length : Int) == m.states) && ((m.output.length : Int) == m.states) && decide ((m.clauses.length : Int) ≤ 60)
def stB (m : Mac) (l : List Int) : Bool := ((l.length : Int) == ((m.start.getD 0 []).length : Int)) && inB 1 10 (l.length : Int) && allB l 0 (m.states - 1)
def macOk2 (m : Mac) : Bool := macNums m && macLens2 m && m.start.all (stB m) && m.send.all (fun l => maRowB l m.degree m.messages) && m.clauses.all (clB m) && allB m.output (-1) 9
theorem inB_true {lo hi x : Int} : inB lo hi x = true ↔ lo ≤ x ∧ x ≤ hi := by simp [inB]
theorem macOk2_eq (m : Mac) : macOk2 m = macOk m := by
  rw [Bool.eq_iff_iff]
  unfold macOk2 macOk macLens macLens2 stB maRowB
  simp only [Bool.and_eq_true, List.all_eq_true, beq_iff_eq, decide_eq_true_eq]
  constructor
  · rintro ⟨⟨⟨⟨⟨hn, ⟨⟨h1, h2⟩, h3⟩, h4⟩, h5⟩, h6⟩, h7⟩, h8⟩
    have hd : 0 ≤ m.degree := by
      unfold macNums at hn
      simp only [Bool.and_eq_true, inB_true] at hn
      exact hn.1.1.1
    have hl : 0 < m.start.length := by omega
    have h0 : m.start.getD 0 [] ∈ m.start := by
      rw [List.getD_eq_getElem?_getD, List.getElem?_eq_getElem hl]
      exact List.getElem_mem hl
    exact ⟨⟨⟨⟨hn, ⟨⟨⟨⟨⟨h1, (h5 _ h0).1.2⟩, h2⟩, h4⟩, h3⟩, h8⟩⟩, fun l hl => ⟨(h5 l hl).1.1, (h5 l hl).2⟩⟩, h6⟩, h7⟩
  · rintro ⟨⟨⟨⟨hn, ⟨⟨⟨⟨⟨h1, h0⟩, h2⟩, h4⟩, h3⟩, h8⟩⟩, h5⟩, h6⟩, h7⟩
    exact ⟨⟨⟨⟨⟨hn, ⟨⟨h1, h2⟩, h3⟩, h4⟩, fun l hl => ⟨⟨(h5 l hl).1, by rw [(h5 l hl).1]; exact h0⟩, (h5 l hl).2⟩⟩, h6⟩, h7⟩, h8⟩
/-- the machine runs on the network -/
def maOnB (m : Mac) (n : Net) : Bool := allB (degsB n) 0 m.degree && allB n.inputs 0 (((m.start.getD 0 []).length : Int) - 1)
def askedB (m : Mac) (n : Net) : Bool := macOk m && netOk n && maOnB m n
def runB (m : Mac) (n : Net) (v : Nat) : Bool := decide (((n.ends.getD v []).length : Int) ≤ m.degree) && decide (n.inputs.getD v 0 < ((m.start.getD 0 []).length : Int))
def runsOnB (m : Mac) (n : Net) : Bool := (List.range n.ends.length).all (runB m n)
theorem netOk_inp {n : Net} (hn : netOk n = true) : n.inputs.length = n.ends.length ∧ ∀ x ∈ n.inputs, 0 ≤ x := by
  unfold netOk inputsB at hn
  simp only [Bool.and_eq_true, beq_iff_eq, List.all_eq_true] at hn
  obtain ⟨⟨_, h1, h2⟩, _⟩ := hn
  exact ⟨by omega, fun x hx => (inB_true.1 (h2 x hx)).1⟩
theorem all_range {α : Type} (xs : List α) (d : α) (p : α → Bool) (q : Nat → Bool) (h : ∀ v, v < xs.length → q v = p (xs.getD v d)) : (List.range xs.length).all q = xs.all p := by
  rw [Bool.eq_iff_iff, List.all_eq_true, List.all_eq_true]
  constructor
  · intro H x hx
    obtain ⟨k, hk, rfl⟩ := List.getElem_of_mem hx
    have := H k (List.mem_range.2 hk)
    rw [h k hk, List.getD_eq_getElem?_getD, List.getElem?_eq_getElem hk] at this
    exact this
  · intro H v hv
    have hv := List.mem_range.1 hv
    rw [h v hv]
    apply H
    rw [List.getD_eq_getElem?_getD, List.getElem?_eq_getElem hv]
    exact List.getElem_mem hv
theorem all_and {α : Type} (xs : List α) (p q : α → Bool) : (xs.all fun x => p x && q x) = (xs.all p && xs.all q) := by
  induction xs with
  | nil => rfl
  | cons a r ih => simp only [List.all_cons, ih]; cases p a <;> cases q a <;> cases r.all p <;> simp
theorem runsOn_eq {m : Mac} {n : Net} (hn : netOk n = true) : runsOnB m n = maOnB m n := by
  obtain ⟨hl, hi⟩ := netOk_inp hn
  unfold runsOnB runB maOnB allB
  rw [all_and]
  congr 1
  · rw [all_range n.ends [] (fun es => decide ((es.length : Int) ≤ m.degree)) _ (fun v hv => rfl)]
    unfold degsB
    rw [List.all_map]
    first | rfl | (congr 1; funext es; simp [inB])
  · rw [← hl, all_range n.inputs 0 (fun x => decide (x < ((m.start.getD 0 []).length : Int))) _ (fun v hv => rfl)]
    rw [Bool.eq_iff_iff, List.all_eq_true, List.all_eq_true]
    constructor
    · intro H x hx
      have := H x hx
      simp only [decide_eq_true_eq] at this
      exact inB_true.2 ⟨hi x hx, by omega⟩
    · intro H x hx
      have := inB_true.1 (H x hx)
      simp only [decide_eq_true_eq]
      omega
/-- a letter that may not be on its way -/
def nletB (m : Mac) (l : Int × Int) : Bool := !inB 0 40 l.1 || !inB 0 (m.messages - 1) l.2
def letsB (m : Mac) (ls : List (Int × Int)) : Bool := decide ((ls.length : Int) ≤ 12) && !(ls.any (nletB m))
def slotB (m : Mac) (ports : Int) (slots : List Int) (flight : List (List (Int × Int))) : Bool := ((slots.length : Int) == ports) && ((flight.length : Int) == ports) && allB slots (-1) (m.messages - 1) && flight.all (letsB m)
def slotAt (m : Mac) (n : Net) (x : ASt) (v : Nat) : Bool := slotB m ((n.ends.getD v []).length : Int) (x.slots.getD v []) (x.flight.getD v [])
def syShapeB (m : Mac) (n : Net) (x : ASt) : Bool := ((x.slots.length : Int) == (n.ends.length : Int)) && ((x.flight.length : Int) == (n.ends.length : Int)) && (List.range n.ends.length).all (slotAt m n x)
def asyncOkB (m : Mac) (n : Net) (x : ASt) : Bool := ((x.rounds.length : Int) == (n.ends.length : Int)) && allB x.rounds 0 40 && maRowB x.before n.ends.length m.states && maRowB x.now n.ends.length m.states && syShapeB m n x
def syGoodB (m : Mac) (n : Net) (x : ASt) : Bool := askedB m n && asyncOkB m n x
theorem slot_false {m : Mac} {ports : Int} {slots : List Int} {flight : List (List (Int × Int))} (h : (((slots.length : Int) != ports) || ((flight.length : Int) != ports) || !allB slots (-1) (m.messages - 1)) = true) : slotB m ports slots flight = false := by
  unfold slotB
  cases h1 : allB slots (-1) (m.messages - 1)
  · simp
  · simp only [h1, Bool.not_true, Bool.or_false, Bool.or_eq_true, bne_iff_ne] at h
    rcases h with h | h
    · rw [beq_eq_false_iff_ne.2 h]; simp
    · rw [beq_eq_false_iff_ne.2 h]; simp
theorem slot_lets {m : Mac} {ports : Int} {slots : List Int} {flight : List (List (Int × Int))} (h : (((slots.length : Int) != ports) || ((flight.length : Int) != ports) || !allB slots (-1) (m.messages - 1)) = false) : slotB m ports slots flight = flight.all (letsB m) := by
  simp only [Bool.or_eq_false_iff, Bool.not_eq_false', bne_eq_false_iff_eq] at h
  unfold slotB
  rw [h.2, h.1.1, h.1.2]
  simp
theorem shape_false {m : Mac} {n : Net} {x : ASt} (h : (((x.slots.length : Int) != (n.ends.length : Int)) || ((x.flight.length : Int) != (n.ends.length : Int))) = true) : syShapeB m n x = false := by
  unfold syShapeB
  simp only [Bool.or_eq_true, bne_iff_ne] at h
  rcases h with h | h
  · rw [beq_eq_false_iff_ne.2 h]; simp
  · rw [beq_eq_false_iff_ne.2 h]; simp
theorem shape_all {m : Mac} {n : Net} {x : ASt} (h : (((x.slots.length : Int) != (n.ends.length : Int)) || ((x.flight.length : Int) != (n.ends.length : Int))) = false) : syShapeB m n x = (List.range n.ends.length).all (slotAt m n x) ∧ x.slots.length = n.ends.length ∧ x.flight.length = n.ends.length := by
  simp only [Bool.or_eq_false_iff, bne_eq_false_iff_eq] at h
  refine ⟨?_, by omega, by omega⟩
  unfold syShapeB
  rw [h.1, h.2]
  simp
theorem async_false {m : Mac} {n : Net} {x : ASt} (h : (((x.rounds.length : Int) != (n.ends.length : Int)) || !allB x.rounds 0 40 || !maRowB x.before n.ends.length m.states || !maRowB x.now n.ends.length m.states || ((x.slots.length : Int) != (n.ends.length : Int)) || ((x.flight.length : Int) != (n.ends.length : Int))) = true) : asyncOkB m n x = false := by
  unfold asyncOkB
  cases h1 : ((x.rounds.length : Int) != (n.ends.length : Int)) with
  | true => rw [beq_eq_false_iff_ne.2 (bne_iff_ne.1 h1)]; simp
  | false =>
    cases h2 : allB x.rounds 0 40 <;> cases h3 : maRowB x.before n.ends.length m.states <;> cases h4 : maRowB x.now n.ends.length m.states <;> first | (simp; done) | skip
    rw [h1, h2, h3, h4] at h
    rw [shape_false (by simpa using h)]
    simp
theorem async_all {m : Mac} {n : Net} {x : ASt} (h : (((x.rounds.length : Int) != (n.ends.length : Int)) || !allB x.rounds 0 40 || !maRowB x.before n.ends.length m.states || !maRowB x.now n.ends.length m.states || ((x.slots.length : Int) != (n.ends.length : Int)) || ((x.flight.length : Int) != (n.ends.length : Int))) = false) : asyncOkB m n x = (List.range n.ends.length).all (slotAt m n x) ∧ x.slots.length = n.ends.length ∧ x.flight.length = n.ends.length := by
  simp only [Bool.or_eq_false_iff, Bool.not_eq_false', bne_eq_false_iff_eq] at h
  obtain ⟨⟨⟨⟨⟨h1, h2⟩, h3⟩, h4⟩, h5⟩, h6⟩ := h
  obtain ⟨e1, e2, e3⟩ := shape_all (m := m) (n := n) (x := x) (by rw [h5, h6]; simp)
  refine ⟨?_, e2, e3⟩
  unfold asyncOkB
  rw [h1, h2, h3, h4, e1]
  simp
theorem asked_mac {m : Mac} {n : Net} (h : askedB m n = true) : macOk m = true := by
  unfold askedB at h
  simp only [Bool.and_eq_true] at h
  exact h.1.1
theorem asked_net {m : Mac} {n : Net} (h : askedB m n = true) : netOk n = true := by
  unfold askedB at h
  simp only [Bool.and_eq_true] at h
  exact h.1.2
end Go.Proofs.YtlfehdikgbgloaaGreat
