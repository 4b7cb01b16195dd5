/- Parts of the proof: walks of functions and plain laws. -/
import Derived.Test.YtfkmkpamdlhbgaaGreatP5
import Derived.Lib.SliceRun
import Derived.Test.YtfkmkpamdlhbgaaGreatP2
import Derived.Test.YtfkmkpamdlhbgaaGreatP6
import Derived.Test.YtfkmkpamdlhbgaaGreatP7
import Derived.Test.YtfkmkpamdlhbgaaGreatP0
namespace Go.Proofs.YtfkmkpamdlhbgaaGreat
open Go.RowKit
theorem Own.clear {base g n c : Nat} (m : Nat) : ∀ {w : World} {xs : List Int} (o : Nat), Own w base (.slice (some ⟨g, 0, none⟩) n c) xs → ∃ ys, Own (w.setCells g o (List.replicate m (.int .i64 0))) base (.slice (some ⟨g, 0, none⟩) n c) ys ∧ ys.take o = xs.take o := by
  induction m with
  | zero => intro w xs o h; exact ⟨xs, h, rfl⟩
  | succ m ih =>
    intro w xs o h
    obtain ⟨ys, h1, h2⟩ := ih (o + 1) (h.set (k := o) 0)
    refine ⟨ys, h1, ?_⟩
    have := congrArg (List.take o) h2
    rw [List.take_take, List.take_take, Nat.min_eq_left (by omega)] at this
    rw [this]
    apply List.ext_getElem?
    intro j
    rw [List.getElem?_take, List.getElem?_take]
    split
    · rw [List.getElem?_set_ne (by omega)]
    · rfl
end Go.Proofs.YtfkmkpamdlhbgaaGreat
namespace Go.Proofs.YtfkmkpamdlhbgaaGreat
open Go.RowKit
theorem Own.grown {w w' : World} {base : Nat} {v : Value} {xs : List Int} {row : Option Nat} (h : Own w base v xs) (hg : w.grownBy w' row) (hd : ∀ q, v.ownBlock = some q → row ≠ some q) : Own w' base v xs :=
  ownsRow_stable h fun q hq => hg.block q (World.ownsRow.lt h q (by simpa using hq)).2 (fun e => hd q (by simpa using hq) e.symm)
/-- append of a whole row of integers -/
theorem app_ints {w : World} {ops : Array Oper} {rest : List Oper} {o : Oper} {a : Act} {Q : Exit → Act → World → Prop} (hgd : o.guard = none) (s x : Operand)
    (ho : o.op = .call { callee := .builtin .append, args := #[s, x], argTypes := #[25, 25] }) {base : Nat} {v : Value} {xs : List Int} (hs : a.eval s = v) (h : Own w base v xs) (b off c : Nat) (ys : List Int)
    (hx : a.eval x = .slice (some ⟨b, off, none⟩) ys.length c) (hc : ∀ j y, ys[j]? = some y → w.cell? ⟨b, off + j, none⟩ = some (.int .i64 y)) (hy : 0 < ys.length) (hl : xs.length + ys.length ≤ 17592186044416) (hbase : base ≤ w.heap.size)
    (k : ∀ g cap w', Own w' base (.slice (some ⟨g, 0, none⟩) (xs.length + ys.length) cap) (xs ++ ys) → w.grownBy w' v.ownBlock → (v.ownBlock = some g ∨ g = w.heap.size) → g < w'.heap.size → wpList Tryz.prog ops Q rest (a.put o.dst (.slice (some ⟨g, 0, none⟩) (xs.length + ys.length) cap)) w') : wpList Tryz.prog ops Q (o :: rest) a w := by
  obtain ⟨i0, hi, hz0, hz1, hz2⟩ := info_parts int_info
  refine wpList_append_lies w hgd s x 25 ho base 3 i0 (.int .i64 0) 1 8 Tryz.underlying25 hi hz0 hz1 hz2 rfl (by decide) v xs.length (xs.map (Value.int .i64)) hs h ⟨b, off, none⟩ ys.length c (ys.map (Value.int .i64)) hx (by simp)
    (by
      intro j u hj
      rw [List.getElem?_map] at hj
      cases hyj : ys[j]? with
      | none => rw [hyj] at hj; simp at hj
      | some y =>
        rw [hyj] at hj
        simp at hj
        subst hj
        rw [Go.Addr.add_lit]
        exact hc j y hyj) (by simp [Value.oneCell']) hy (by unfold maxLen; omega) (by omega) hbase w.heap.size rfl ?_
  intro g cap w' h1 h2 h3 h4
  refine k g cap w' ?_ h2 h3 h4
  unfold Own
  simpa using h1
set_option maxHeartbeats 2000000 in
theorem l1Own_any (v : Value) (xs : List Int) (w : World) (h : IntS w v xs) (h0' : 0 < xs.length) (hl : xs.length ≤ 17592186044416) :
    Calls Tryz.prog 131 #[v] w fun e w' => ∃ u, e = .returned u ∧ Own w' w.heap.size u xs ∧ Below w.heap.size w w' := by
  obtain ⟨A, c, rfl, hlc, hm, hA⟩ := h
  unfold maxLen at hm
  have ho := own_lit w [] (by simp [maxLen])
  simp only [List.map_nil, List.length_nil] at ho
  obtain ⟨y0, hy0⟩ := getx xs 0 (by omega)
  obtain ⟨b, off, rfl, _⟩ := hA 0 y0 hy0
  have HA : Hid (∀ j y, xs[j]? = some y → w.cell? ⟨b, off + j, none⟩ = some (.int .i64 y)) := fun j y hj => by
    obtain ⟨b', off', e, hc⟩ := hA j y hj
    cases e
    exact hc
  have Ho := Lib.hid ho
  clear hA hy0 ho
  go_enter Tryz.func131, Tryz.ntmps131
  go_wp2_with (at_builtin; refine app_ints rfl _ _ rfl rfl Ho.out b off c xs rfl (fun j y hj => bc (below_alloc _ _) (HA.out j y hj)) h0' (by simpa using hl) (by simp) ?_; intro g cc w2 ho2 hg2 _ _)
  simp only [List.length_nil, Nat.zero_add, List.nil_append] at ho2 ⊢
  have Ho2 := Lib.hid ho2
  have Hb2 : Hid (Below w.heap.size w w2) := (below_alloc w _).grown hg2 (by simp) (fun j hj => (World.ownsRow.lt Ho.out j hj).1)
  clear ho2 hg2
  go_wp2
  go_ret
  exact ⟨_, rfl, Ho2.out, Hb2.out⟩
end Go.Proofs.YtfkmkpamdlhbgaaGreat
namespace Go.Proofs.YtfkmkpamdlhbgaaGreat
open Go Go.RowKit
/-! A region that draws its order: reads, a call that makes a row of integers, a new variable of type int, a slot for the row. -/
def I1 (W : World) (b : Nat) (x : Int) : Prop := W.heap[b]? = some (.cells #[.int .i64 x] 3)
theorem I1.cells {W : World} {b : Nat} {x : Int} (h : I1 W b x) : W.cell? ⟨b, 0, none⟩ = some (.int .i64 x) ∧ W.frozen? ⟨b, 0, none⟩ = false := by
  unfold I1 at h
  simp [World.cell?, World.frozen?, h]
theorem I1.lt {W : World} {b : Nat} {x : Int} (h : I1 W b x) : b < W.heap.size := (Array.getElem?_eq_some_iff.1 h).1
theorem I1.since {W W' : World} {b : Nat} {x : Int} (h : I1 W b x) (hs : Since W W') : I1 W' b x := (hs.below.block b h.lt).trans h
theorem I1.set {W : World} {b : Nat} {x : Int} (h : I1 W b x) (y : Int) : I1 (W.setCell ⟨b, 0, none⟩ (.int .i64 y)) b y := by
  unfold I1 at *
  simp [World.setCell, Array.getElem?_modify, h]
theorem I1.new (W : World) (x : Int) : I1 (W.alloc (.cells #[.int .i64 x] 3)) W.heap.size x := by
  show (W.heap.push _)[W.heap.size]? = _
  rw [Array.getElem?_push_size]
section
variable {ops : Array Oper}
end
end Go.Proofs.YtfkmkpamdlhbgaaGreat
namespace Go.Proofs.YtfkmkpamdlhbgaaGreat
open Go.RowKit
theorem own_oth {W : World} {base b k : Nat} {u : Value} {xs : List Int} (h : Own W base u xs) (hd : u.ownBlock ≠ some b) (v : Value) : Own (W.setCell ⟨b, k, none⟩ v) base u xs :=
  ownsRow_stable h fun j hj => Below.heap_setCell W _ v j (fun e => hd (by simp at hj; rw [hj, e]))
theorem getD_at {ls : List Int} {v : Nat} (h : v < ls.length) : ls[v]? = some (ls.getD v 0) := by rw [List.getD_eq_getElem?_getD, List.getElem?_eq_getElem h]; rfl
theorem pre_at {xs ys zs : List Int} {i : Nat} {x : Int} (h : zs = xs ++ ys) (hx : xs[i]? = some x) : zs[i]? = some x := by
  rw [h, List.getElem?_append_left (lt_of_get hx)]; exact hx
set_option maxRecDepth 100000 in
set_option maxHeartbeats 16000000 in
theorem meFrom_any (ve vi vn : Value) (n : Net) (v : Nat) (w : World) (h : NetIn w ve vi vn n) (hn : netOk n = true) (hv : v < n.ends.length) :
    Calls Tryz.prog 88 #[.agg #[ve, vi, vn], .int .i64 v] w fun e w' => ∃ u, e = .returned u ∧ Own w' w.heap.size u (distB n v) ∧ Below w.heap.size w w' := by
  have hnl := netOk_len hn
  have Hn := Lib.hid hn
  obtain ⟨w0, hw0⟩ : ∃ w0, w0 = (w).alloc (.cells #[ve, vi, vn] 27) := ⟨_, rfl⟩
  have hb0 : Below w.heap.size w w0 := by rw [hw0]; exact ((Below.refl _ _).alloc (by simp) _)
  have H := Lib.hid (h.keep hb0)
  obtain ⟨h1, h2, h3⟩ := h.keep hb0
  obtain ⟨A, c, rfl, hlc, hm, hA⟩ := h1
  obtain ⟨A2, c2, rfl, _, hm2, _⟩ := h2
  obtain ⟨A3, c3, rfl, _, hm3, _⟩ := h3
  unfold maxLen at hm hm2 hm3
  have p00 : ∀ W, Since w0 W → W.cell? ⟨w.heap.size, 0, none⟩ = some (.slice A n.ends.length c) := have_cell (by rw [hw0]; simp)
  have p01 : ∀ W, Since w0 W → W.cell? ⟨w.heap.size, 1, none⟩ = some (.slice A2 n.ids.length c2) := have_cell (by rw [hw0]; simp)
  have p02 : ∀ W, Since w0 W → W.cell? ⟨w.heap.size, 2, none⟩ = some (.slice A3 n.inputs.length c3) := have_cell (by rw [hw0]; simp)
  have Hb0 := Lib.hid hb0
  have Hw0 := Lib.hid hw0
  have HA := Lib.hid hA
  clear hA h
  clear hb0 hw0
  obtain ⟨cA, hcA⟩ : ∃ x, x = c := ⟨_, rfl⟩
  subst hcA
  obtain ⟨R, hR⟩ : ∃ R, R = distB n v := ⟨_, rfl⟩
  have HR := Lib.hid hR
  rw [← hR]
  have hs0 : Since w0 w0 := since_refl _
  clear hn hR
  go_enter Tryz.func88, Tryz.ntmps88
  go_upto_region 1 with (fail)
  rw [← Hw0.out]
  go_wp2_with (at_make; refine mk_ints _ rfl _ _ rfl _ _ n.ends.length rfl rfl rfl rfl (by omega) ?_; intro w1 ho1 hb1 hz1)
  obtain ⟨g, hg⟩ : ∃ g, g = w0.heap.size := ⟨_, rfl⟩
  rw [← hg] at ho1 hz1 ⊢
  have Hg := Lib.hid hg
  clear hg hz1
  go_wp2
  go_loopw [17] (fun i wr => ∃ k : Nat, k ≤ n.ends.length ∧ i = .int .i64 k ∧ Own wr w0.heap.size (.slice (some ⟨g, 0, none⟩) n.ends.length n.ends.length) (List.replicate k (-1) ++ List.replicate (n.ends.length - k) 0) ∧ Since w0 wr) (fun i _ => n.ends.length - (intOf i).toNat)
  case atStart => exact ⟨0, Nat.zero_le _, rfl, by have := ho1; simpa [Hg.out] using this, hb1⟩
  case round =>
    obtain ⟨k, hk, rfl, ho, hs⟩ := hrel
    have Ho := Lib.hid ho
    have Hs := Lib.hid hs
    clear ho1 hb1 ho hs hs0
    by_cases hlt : k < n.ends.length
    · obtain ⟨y, hy⟩ := getx (List.replicate k (-1 : Int) ++ List.replicate (n.ends.length - k) 0) k (by simp; omega)
      have cz := Ho.out.cell hy
      have fz := Ho.out.free k
      clear hy
      go_wp2
      go_roundw
      case rel =>
        refine ⟨k + 1, by omega, by go_num, ?_, Below.setCell Hs.out (by show w0.heap.size ≤ g; rw [Hg.out]; exact Nat.le_refl _) _⟩
        have := Ho.out.set (k := k) (-1)
        have e : (List.replicate k (-1 : Int) ++ List.replicate (n.ends.length - k) 0).set k (-1) = List.replicate (k + 1) (-1) ++ List.replicate (n.ends.length - (k + 1)) 0 := by
          rw [List.set_append_right _ _ (by simp), List.length_replicate, Nat.sub_self, show n.ends.length - k = (n.ends.length - (k + 1)) + 1 by omega, List.replicate_succ, List.set_cons_zero, List.replicate_succ', List.append_assoc]
          rfl
        rwa [e] at this
      case measure => simp [intOf]; omega
    · obtain rfl : k = n.ends.length := by omega
      have Ho2 : Hid (Own wr w0.heap.size (.slice (some ⟨g, 0, none⟩) n.ends.length n.ends.length) (List.replicate n.ends.length (-1))) := by
        have := Ho.out
        rwa [Nat.sub_self, List.replicate_zero, List.append_nil] at this
      have cz := Ho2.out.cell (getD_at (show v < (List.replicate n.ends.length (-1 : Int)).length by simpa using hv))
      have fz := Ho2.out.free v
      have Hgw : Hid (w0.heap.size ≤ g) := by rw [Hg.out]; exact Nat.le_refl _
      obtain ⟨w3, hw3⟩ : ∃ w3, w3 = wr.setCell ⟨g, v, none⟩ (.int .i64 0) := ⟨_, rfl⟩
      have Ho3 : Hid (Own w3 w0.heap.size (.slice (some ⟨g, 0, none⟩) n.ends.length n.ends.length) (bfsStart n v).1) := by rw [hw3]; exact Ho2.out.set (k := v) 0
      have Hs3 : Hid (Since w0 w3) := by rw [hw3]; exact Below.setCell Hs.out Hgw.out _
      obtain ⟨g2, hg2⟩ : ∃ g2, g2 = wr.heap.size := ⟨_, rfl⟩
      have e3 : w3.heap.size = wr.heap.size := by rw [hw3]; simp
      obtain ⟨w4, hw4⟩ : ∃ w4, w4 = w3.alloc (.cells #[.int .i64 v] 3) := ⟨_, rfl⟩
      have Ho4 : Hid (Own w4 w0.heap.size (.slice (some ⟨g, 0, none⟩) n.ends.length n.ends.length) (bfsStart n v).1) := by rw [hw4]; exact Ho3.out.since (since_alloc _ (since_refl _))
      have Hu4 : Hid (Own w4 w0.heap.size (.slice (some ⟨g2, 0, none⟩) (bfsStart n v).2.length 1) (bfsStart n v).2) := by
        rw [hw4, hg2, ← e3]
        have := own_lit w3 [(v : Int)] (by simp [maxLen])
        exact this.mono Hs3.out.below.size
      have Hs4 : Hid (Since w0 w4) := by rw [hw4]; exact since_alloc _ Hs3.out
      have hgg : g2 ≠ g := by have := (World.ownsRow.lt Ho3.out g rfl).2; omega
      clear e3
      have Hw3 := Lib.hid hw3
      have Hw4 := Lib.hid hw4
      have Hg2 := Lib.hid hg2
      clear hw3 hw4 hg2
      go_upto_region 9 with (fail)
      rw [← Hw3.out, ← Hg2.out, ← Hw4.out]
      clear cz fz
      go_wp2
      go_loopw [7, 8] (fun u i wr => ∃ (f k : Nat) (st : List Int × List Int) (gu cu : Nat), i = .int .i64 k ∧ u = .slice (some ⟨gu, 0, none⟩) st.2.length cu ∧ gu ≠ g ∧ BI n.ends.length st ∧ bfs n f st k = R ∧ n.ends.length + 1 ≤ f + k ∧ k ≤ st.2.length ∧ Own wr w0.heap.size (.slice (some ⟨g, 0, none⟩) n.ends.length n.ends.length) st.1 ∧ Own wr w0.heap.size u st.2 ∧ Since w0 wr) (fun _ i _ => n.ends.length + 1 - (intOf i).toNat)
      case atStart => exact ⟨n.ends.length + 1, 0, bfsStart n v, g2, 1, rfl, rfl, hgg, BI.start hv, HR.out.symm, by omega, Nat.zero_le _, Ho4.out, Hu4.out, Hs4.out⟩
      case round =>
        obtain ⟨f, k, st, gu, cu, rfl, rfl, hgu, hbi, hbr, hf, hk, ho, hou, hs⟩ := hrel
        have HBI := Lib.hid hbi
        have Hbr := Lib.hid hbr
        have Ho := Lib.hid ho
        have Hou := Lib.hid hou
        have Hs := Lib.hid hs
        have hbd := hbi.bd
        clear hbi hbr ho hou hs hgg
        by_cases hlt : k < st.2.length
        · obtain ⟨f, rfl⟩ : ∃ f', f = f' + 1 := ⟨f - 1, by omega⟩
          obtain ⟨x, hx⟩ := getx st.2 k hlt
          have hxin := HBI.out.walk x (List.mem_of_getElem? hx)
          obtain ⟨c, rfl⟩ := Int.eq_ofNat_of_zero_le hxin.1
          have hc : c < n.ends.length := by omega
          have cx := have_cell (Hou.out.cell hx)
          have Hxin := Lib.hid hxin
          have Hxd : Hid (st.2.getD k 0 = (c : Int)) := by show _ = _; rw [List.getD_eq_getElem?_getD, hx]; rfl
          have Hx := Lib.hid hx
          obtain ⟨es, hes⟩ := getx n.ends c hc
          obtain ⟨hes6, -⟩ := netOk_row Hn.out hes
          have Hes := Lib.hid hes
          obtain ⟨see, hsee⟩ : ∃ s, s = bsee n c := ⟨_, rfl⟩
          have Hse2 : Hid (es.map (·.1) = see) := by show _ = _; rw [hsee, bsee, Int.toNat_natCast, List.getD_eq_getElem?_getD, hes]; rfl
          have Hsin : Hid (∀ y ∈ see, 0 ≤ y ∧ y < n.ends.length) := by rw [hsee]; exact see_in Hn.out Hxin.out
          have Hsee := Lib.hid hsee
          have hs6 : see.length ≤ 6 := by rw [← Hse2.out, List.length_map]; exact hes6
          have Hcall : Hid (∀ W, Since wr W → Calls Tryz.prog 134 #[.agg #[.slice A n.ends.length cA, .slice A2 n.ids.length c2, .slice A3 n.inputs.length c3], .int .i64 c] W fun e w' => ∃ u, e = .returned u ∧ Own w' wr.heap.size u see ∧ Below W.heap.size W w') := fun W hW => by
            have := neNear_any _ _ _ n c es W (H.out.keep (Hs.out.after hW).below) Hes.out (by omega)
            rw [Hse2.out] at this
            exact this.mono fun e w' ⟨u, h1, h2, h3⟩ => ⟨u, h1, h2.mono (Since.below hW).size, h3⟩
          have q0 := lift_cell p00 Hs.out
          have q1 := lift_cell p01 Hs.out
          have q2 := lift_cell p02 Hs.out
          clear hx hxin hes hsee
          go_upto_region 12 with (fail)
          refine wp_region_chain (w0 := wr) 8 [false, false, false, false, false, true, true, false] (by kernel_rfl) (by kernel_rfl) (since_refl _) ?_
          simp only [selF, selT, List.take_succ_cons, List.take_zero, List.drop_succ_cons, List.drop_zero]
          refine pflow_val (v := ?_) rfl ?_ ?_; rotate_left; (intro W hW; go_simp; with_reducible rfl)
          simp only [Act.put, List.setIfInBounds_toArray, List.set_cons_succ, List.set_cons_zero]
          refine pflow_val (v := ?_) rfl ?_ ?_; rotate_left; (intro W hW; go_simp; with_reducible rfl)
          simp only [Act.put, List.setIfInBounds_toArray, List.set_cons_succ, List.set_cons_zero]
          refine pflow_val (v := ?_) rfl ?_ ?_; rotate_left; (intro W hW; go_simp; with_reducible rfl)
          simp only [Act.put, List.setIfInBounds_toArray, List.set_cons_succ, List.set_cons_zero]
          refine pflow_val (v := ?_) rfl ?_ ?_; rotate_left; (intro W hW; go_simp; with_reducible rfl)
          simp only [Act.put, List.setIfInBounds_toArray, List.set_cons_succ, List.set_cons_zero]
          refine pflow_val (v := ?_) rfl ?_ ?_; rotate_left; (intro W hW; go_simp; with_reducible rfl)
          simp only [Act.put, List.setIfInBounds_toArray, List.set_cons_succ, List.set_cons_zero]
          refine pflow_val (v := ?_) rfl ?_ ?_; rotate_left; (intro W hW; go_simp; with_reducible rfl)
          simp only [Act.put, List.setIfInBounds_toArray, List.set_cons_succ, List.set_cons_zero]
          intro W hW
          refine Or.inl ⟨rfl, ?_⟩
          go_simp
          (with_reducible refine (Hcall.out W hW).mono ?_)
          rintro e W' ⟨un, rfl, hon, hb⟩
          refine ⟨_, rfl, hW.trans hb, ?_⟩
          replace hW := hW.trans hb
          obtain ⟨Bn, dn, rfl, _⟩ := id hon.ints
          (try simp only [Act.put, List.setIfInBounds_toArray, List.set_cons_succ, List.set_cons_zero])
          refine tflow_val (v := ?_) rfl ?_ hW ?_; rotate_left; (go_simp; with_reducible rfl)
          simp only [Act.put, List.setIfInBounds_toArray, List.set_cons_succ, List.set_cons_zero]
          simp only [TFlow]
          have Hon := Lib.hid (hon.mono Hs.out.below.size)
          have hnr := fun q hq => (World.ownsRow.lt hon q hq).1
          have hng : (Value.slice Bn see.length dn).ownBlock ≠ some g := fun e => by have := hnr g e; have := (World.ownsRow.lt Ho.out g rfl).2; omega
          have hnu : (Value.slice Bn see.length dn).ownBlock ≠ some gu := fun e => by have := hnr gu e; have := (World.ownsRow.lt Hou.out gu rfl).2; omega
          have Ho5 := Lib.hid (Ho.out.since hW)
          have Hou5 := Lib.hid (Hou.out.since hW)
          have Hs5 := Lib.hid (Hs.out.after hW)
          have Hng := Lib.hid hng
          have Hnu := Lib.hid hnu
          have Hfw : Hid (∀ j, ∃ ys, ((see.take j).foldl (bstep c) st).2 = st.2 ++ ys) := fun j => fold_walk _ _ _
          clear hon hnr hng hnu hW cx q0 q1 q2
          go_wp2
          go_loopw [7, 42] (fun u i wr => ∃ (j gu cu : Nat) (st' : List Int × List Int), j ≤ see.length ∧ i = .int .i64 j ∧ st' = (see.take j).foldl (bstep c) st ∧ u = .slice (some ⟨gu, 0, none⟩) st'.2.length cu ∧ gu ≠ g ∧ BI n.ends.length st' ∧ Own wr w0.heap.size (.slice (some ⟨g, 0, none⟩) n.ends.length n.ends.length) st'.1 ∧ Own wr w0.heap.size u st'.2 ∧
            Own wr w0.heap.size (.slice Bn see.length dn) see ∧ (Value.slice Bn see.length dn).ownBlock ≠ some gu ∧ Since w0 wr) (fun _ i _ => see.length - (intOf i).toNat)
          case atStart => exact ⟨0, gu, cu, st, Nat.zero_le _, rfl, rfl, rfl, hgu, HBI.out, Ho5.out, Hou5.out, Hon.out, Hnu.out, Hs5.out⟩
          case round =>
            obtain ⟨j, gv, cv, st', hj, rfl, hst', rfl, hgv, hbi', ho', hou', hon', hnv, hs'⟩ := hrel
            have HBI' := Lib.hid hbi'
            have Ho' := Lib.hid ho'
            have Hou' := Lib.hid hou'
            have Hon' := Lib.hid hon'
            have Hs' := Lib.hid hs'
            have Hst' := Lib.hid hst'
            have Hnv := Lib.hid hnv
            have hbd' := hbi'.bd
            clear hst' hbi' ho' hou' hon' hs' hnv hgu
            by_cases hlj : j < see.length
            · obtain ⟨y, hy⟩ := getx see j hlj
              have hyin := Hsin.out y (List.mem_of_getElem? hy)
              obtain ⟨d, rfl⟩ := Int.eq_ofNat_of_zero_le hyin.1
              have hd : d < n.ends.length := by omega
              rcases Hon'.out.cases with ⟨-, e1⟩ | ⟨gn, cn, en, hgn1, hgn2⟩
              · rw [e1] at hlj; simp at hlj
              injection en with en1 en2 en3
              subst en1
              have cy := Hon'.out.cell hy
              have hl1 : st'.1.length = n.ends.length := HBI'.out.len
              have cd := Ho'.out.cell (getD_at (show d < st'.1.length by omega))
              have fd := Ho'.out.free d
              obtain ⟨z, hz⟩ : ∃ z, z = st'.1.getD d 0 := ⟨_, rfl⟩
              rw [← hz] at cd
              have Hz := Lib.hid hz
              have Hy := Lib.hid hy
              have Hnx : Hid ((see.take (j + 1)).foldl (bstep c) st = bstep c st' d) := by show _ = _; rw [fold_snoc hy, ← Hst'.out]
              have Hl1 := Lib.hid hl1
              have m3 : IntKind.i64.wrap ((j : Int) + 1) = (j : Int) + 1 := wr64 _ (by omega) (by omega)
              clear hz hy hyin hl1 en2 en3
              by_cases hneg : z < 0
              · have hcl : c < st'.1.length := by rw [Hl1.out]; exact hc
                obtain ⟨q, hq⟩ : ∃ q, q = st'.1.getD c 0 := ⟨_, rfl⟩
                have cq := Ho'.out.cell (getD_at hcl)
                rw [← hq] at cq
                have hqb : -1 ≤ q ∧ q < st'.2.length := by rw [hq]; exact HBI'.out.val _ (List.mem_of_getElem? (getD_at hcl))
                obtain ⟨ys, hys⟩ := Hfw.out j
                have cw := Hou'.out.cell (pre_at (show st'.2 = st.2 ++ ys by rw [Hst'.out]; exact hys) Hx.out)
                have hkl : k < st'.2.length := lt_of_get (pre_at (show st'.2 = st.2 ++ ys by rw [Hst'.out]; exact hys) Hx.out)
                have m4 : IntKind.i64.wrap (q + 1) = q + 1 := wr64 _ (by omega) (by omega)
                have Hnew : Hid (bstep c st' d = (st'.1.set d (q + 1), st'.2 ++ [(d : Int)])) := by show _ = _; unfold bstep; rw [Int.toNat_natCast, Int.toNat_natCast, ← Hz.out, if_pos hneg, ← hq]
                have HBn : Hid (BI n.ends.length (bstep c st' d)) := HBI'.out.step (by omega) (by omega)
                obtain ⟨w5, hw5⟩ : ∃ w5, w5 = wr.setCell ⟨g, d, none⟩ (.int .i64 (q + 1)) := ⟨_, rfl⟩
                have Ho5' : Hid (Own w5 w0.heap.size (.slice (some ⟨g, 0, none⟩) n.ends.length n.ends.length) (st'.1.set d (q + 1))) := by rw [hw5]; exact Ho'.out.set (k := d) (q + 1)
                have Hou5' : Hid (Own w5 w0.heap.size (.slice (some ⟨gv, 0, none⟩) st'.2.length cv) st'.2) := by rw [hw5]; exact own_oth Hou'.out (by simpa [Value.ownBlock] using hgv) _
                have Hon5' : Hid (Own w5 w0.heap.size (.slice (some ⟨gn, 0, none⟩) see.length dn) see) := by rw [hw5]; exact own_oth Hon'.out Hng.out _
                have Hs5' : Hid (Since w0 w5) := by rw [hw5]; exact Below.setCell Hs'.out Hgw.out _
                have Hw5 := Lib.hid hw5
                have Hgv := Lib.hid hgv
                have Hlen : Hid (st'.2.length + 1 ≤ 17592186044416) := by show _ ≤ _; omega
                clear hq hw5 hys
                go_upto_region 17 with (fail)
                rw [← Hw5.out]
                clear cy cd fd cq cw m4
                go_wp2_with (at_builtin; refine app_int rfl _ _ rfl rfl (Hou5'.out.since (since_alloc _ (since_refl _))) w5.heap.size d rfl (by simp [go_sem]) Hlen.out (by have := Hs5'.out.below.size; simp; omega) ?_; intro g7 c7 w7 ho7 hg7 hor7 _)
                change World.grownBy _ w7 (some gv) at hg7
                change (some gv = some g7 ∨ g7 = _) at hor7
                have Ho7 : Hid (Own w7 w0.heap.size (.slice (some ⟨g, 0, none⟩) n.ends.length n.ends.length) (st'.1.set d (q + 1))) := Own.grown (Ho5'.out.keep (below_alloc w5 _)) hg7 (fun x hx e => by simp [Value.ownBlock] at hx; cases e; exact Hgv.out hx.symm)
                have Hon7 : Hid (Own w7 w0.heap.size (.slice (some ⟨gn, 0, none⟩) see.length dn) see) := Own.grown (Hon5'.out.keep (below_alloc w5 _)) hg7 (fun x hx e => by cases e; exact Hnv.out hx)
                have Hou7 : Hid (Own w7 w0.heap.size (.slice (some ⟨g7, 0, none⟩) (st'.2.length + 1) c7) (st'.2 ++ [(d : Int)])) := ho7
                have Hgz := Lib.hid (World.ownsRow.lt Ho5'.out g rfl).2
                have Hgnz := Lib.hid (World.ownsRow.lt Hon5'.out gn rfl).2
                have Hg7 : Hid (g7 ≠ g) := by
                  rcases hor7 with e | e
                  · cases e; exact Hgv.out
                  · simp at e; exact fun e2 => by have := Hgz.out; omega
                have Hgn7 : Hid ((Value.slice (some ⟨gn, 0, none⟩) see.length dn).ownBlock ≠ some g7) := by
                  rcases hor7 with e | e
                  · cases e; exact Hnv.out
                  · simp at e; exact fun e2 => by simp [Value.ownBlock] at e2; have := Hgnz.out; omega
                have Hs7 : Hid (Since w0 w7) := Below.grown (show Below w0.heap.size w0 _ from since_alloc _ Hs5'.out) hg7 (by have := Hs5'.out.below.size; simp; omega) (fun x hx => by cases hx; exact (World.ownsRow.lt Hou5'.out gv rfl).1)
                clear ho7 hg7 hor7
                go_wp2
                go_roundw
                case rel => exact ⟨j + 1, g7, c7, bstep c st' d, by omega, by go_num, Hnx.out.symm, by rw [Hnew.out]; simp, Hg7.out, HBn.out, by rw [Hnew.out]; exact Ho7.out, by rw [Hnew.out]; exact Hou7.out, Hon7.out, Hgn7.out, Hs7.out⟩
                case measure => simp [intOf]; omega
              · have Hsame : Hid (bstep c st' d = st') := by show _ = _; unfold bstep; rw [Int.toNat_natCast, ← Hz.out, if_neg hneg]
                go_wp2
                go_roundw
                case rel => exact ⟨j + 1, gv, cv, st', by omega, by go_num, by rw [Hnx.out, Hsame.out], rfl, hgv, HBI'.out, Ho'.out, Hou'.out, Hon'.out, Hnv.out, Hs'.out⟩
                case measure => simp [intOf]; omega
            · obtain rfl : j = see.length := by omega
              have Hfin : Hid (st' = see.foldl (bstep c) st) := by show _ = _; rw [Hst'.out, List.take_length]
              have Hbn : Hid (bfs n f st' (k + 1) = R) := by
                show _ = _
                rw [← Hbr.out, bfs, if_pos hlt, Hxd.out, ← Hsee.out, ← Hfin.out]
              have Hlw : Hid (k + 1 ≤ st'.2.length) := by
                obtain ⟨ys, hys⟩ := Hfw.out see.length
                show _ ≤ _
                rw [Hst'.out, hys, List.length_append]
                omega
              have m3 : IntKind.i64.wrap ((k : Int) + 1) = (k : Int) + 1 := wr64 _ (by omega) (by omega)
              go_wp2
              go_roundw
              case rel => exact ⟨f, k + 1, st', gv, cv, by go_num, rfl, hgv, HBI'.out, Hbn.out, by omega, Hlw.out, Ho'.out, Hou'.out, Hs'.out⟩
              case measure => simp [intOf]; omega
        · have hRe : Hid (R = st.1) := by
            rw [← Hbr.out]
            obtain ⟨f, rfl⟩ | h0 : (∃ f', f = f' + 1) ∨ f = 0 := by
              rcases Nat.eq_zero_or_pos f with h | h
              · exact .inr h
              · exact .inl ⟨f - 1, by omega⟩
            · show bfs _ _ _ _ = _
              rw [bfs, if_neg hlt]
            · subst h0; exact rfl
          go_wp2
          go_ret
          exact ⟨_, rfl, by rw [hRe.out]; exact Ho.out.mono Hb0.out.size, Since.after Hb0.out Hs.out⟩
end Go.Proofs.YtfkmkpamdlhbgaaGreat
namespace Go.Proofs.YtfkmkpamdlhbgaaGreat
open Go.RowKit
/-! edges: rows of four integers -/
abbrev Ed := Int × Int × Int × Int
def encD (e : Ed) : List Value := [.int .i64 e.1, .int .i64 e.2.1, .int .i64 e.2.2.1, .int .i64 e.2.2.2]
theorem edge_info : (Tryz.prog.info? 110).map (fun i => (i.zero, i.size, i.bytes)) = some (some (.agg #[.int .i64 0, .int .i64 0, .int .i64 0, .int .i64 0]), 4, 32) := by kernel_rfl
def OwnD (w : World) (base : Nat) (v : Value) (xs : List Ed) : Prop := w.ownsRow base 110 4 v xs.length (xs.flatMap encD)
theorem encD_get : ∀ {xs : List Ed} {k : Nat} {x : Ed}, xs[k]? = some x → (xs.flatMap encD)[k * 4]? = some (.int .i64 x.1) ∧ (xs.flatMap encD)[k * 4 + 1]? = some (.int .i64 x.2.1) ∧ (xs.flatMap encD)[k * 4 + 2]? = some (.int .i64 x.2.2.1) ∧ (xs.flatMap encD)[k * 4 + 3]? = some (.int .i64 x.2.2.2)
  | [], _, _, h => by simp at h
  | y :: xs, 0, x, h => by simp at h; subst h; simp [encD]
  | y :: xs, k + 1, x, h => by
    obtain ⟨h1, h2, h3, h4⟩ := encD_get (xs := xs) (k := k) (x := x) (by simpa using h)
    have e : ∀ j, ((y :: xs).flatMap encD)[(k + 1) * 4 + j]? = (xs.flatMap encD)[k * 4 + j]? := fun j => by
      rw [List.flatMap_cons, List.getElem?_append_right (by simp [encD]; omega)]
      congr 1
      simp [encD]; omega
    exact ⟨(e 0).trans h1, (e 1).trans h2, (e 2).trans h3, (e 3).trans h4⟩
theorem OwnD.keep {w w' : World} {base : Nat} {v : Value} {xs : List Ed} (h : OwnD w base v xs) (hb : Since w w') : OwnD w' base v xs := ownsRow_stable h fun k hk => hb.below.block k (World.ownsRow.lt h k (by simpa using hk)).2
theorem OwnD.mono {w : World} {base base' : Nat} {v : Value} {xs : List Ed} (h : OwnD w base v xs) (hb : base' ≤ base) : OwnD w base' v xs := ownsRow_mono h hb
theorem ownD_nil (w : World) (base : Nat) : OwnD w base (.slice none 0 0) [] := World.ownsRow_nil w base _ _
/-- a row of edges, for reading -/
def EdgeS (W : World) (v : Value) (xs : List Ed) : Prop := ∃ A c, v = .slice A xs.length c ∧ c ≤ maxLen ∧ xs.length ≤ c ∧ ∀ k x, xs[k]? = some x → ∃ b, A = some ⟨b, 0, none⟩ ∧ W.cell? ⟨b, k * 4, none⟩ = some (.int .i64 x.1) ∧ W.cell? ⟨b, k * 4 + 1, none⟩ = some (.int .i64 x.2.1) ∧ W.cell? ⟨b, k * 4 + 2, none⟩ = some (.int .i64 x.2.2.1) ∧ W.cell? ⟨b, k * 4 + 3, none⟩ = some (.int .i64 x.2.2.2)
theorem OwnD.read {w : World} {base : Nat} {v : Value} {xs : List Ed} (h : OwnD w base v xs) : EdgeS w v xs := by
  have h' := h
  rcases h.2 with ⟨rfl, hn⟩ | ⟨g, cap, cur, rfl, hb, hg, hnc, hcm, hsz, htk⟩
  · have : xs = [] := List.eq_nil_of_length_eq_zero hn
    subst this
    exact ⟨none, 0, rfl, Nat.zero_le _, Nat.le_refl _, fun k x hk => by simp at hk⟩
  · refine ⟨_, cap, rfl, hcm, hnc, fun k x hk => ⟨g, rfl, ?_⟩⟩
    obtain ⟨h1, h2, h3, h4⟩ := encD_get hk
    have hkl := lt_of_get hk
    exact ⟨by rw [World.ownsRow.cellAt (cap := cap) h' _ (by omega)]; exact h1, by rw [World.ownsRow.cellAt (cap := cap) h' _ (by omega)]; exact h2, by rw [World.ownsRow.cellAt (cap := cap) h' _ (by omega)]; exact h3, by rw [World.ownsRow.cellAt (cap := cap) h' _ (by omega)]; exact h4⟩
theorem app_edge {w w0 : World} {ops : Array Oper} {rest : List Oper} {o : Oper} {a : Act} {Q : Exit → Act → World → Prop} (hgd : o.guard = none) (s x : Operand)
    (ho : o.op = .call { callee := .builtin .append, args := #[s, x], argTypes := #[107, 107] }) {v : Value} {xs : List Ed} (hs : a.eval s = v) (h : OwnD w w0.heap.size v xs) (b : Nat) (y : Ed)
    (hx : a.eval x = .slice (some ⟨b, 0, none⟩) 1 1) (hc0 : w.cell? ⟨b, 0, none⟩ = some (.int .i64 y.1)) (hc1 : w.cell? ⟨b, 1, none⟩ = some (.int .i64 y.2.1)) (hc2 : w.cell? ⟨b, 2, none⟩ = some (.int .i64 y.2.2.1)) (hc3 : w.cell? ⟨b, 3, none⟩ = some (.int .i64 y.2.2.2)) (hl : xs.length + 1 ≤ 1000000) (hsn : Since w0 w)
    (k : ∀ g cap w', OwnD w' w0.heap.size (.slice (some ⟨g, 0, none⟩) (xs.length + 1) cap) (xs ++ [y]) → Since w0 w' → wpList Tryz.prog ops Q rest (a.put o.dst (.slice (some ⟨g, 0, none⟩) (xs.length + 1) cap)) w') : wpList Tryz.prog ops Q (o :: rest) a w := by
  obtain ⟨i0, hi, hz0, hz1, hz2⟩ := info_parts edge_info
  refine wpList_append_lies w hgd s x 107 ho w0.heap.size 110 i0 _ 4 32 Tryz.underlying107 hi hz0 hz1 hz2 rfl (by decide) v xs.length (xs.flatMap encD) hs h ⟨b, 0, none⟩ 1 1 (encD y) hx rfl
    (by
      intro j u hj
      rw [Go.Addr.add_lit, Nat.zero_add]
      match j, hj with
      | 0, hj => simp [encD] at hj; subst hj; exact hc0
      | 1, hj => simp [encD] at hj; subst hj; exact hc1
      | 2, hj => simp [encD] at hj; subst hj; exact hc2
      | 3, hj => simp [encD] at hj; subst hj; exact hc3
      | j + 4, hj => simp [encD] at hj) (by simp [encD, Value.oneCell']) (by omega) (by unfold maxLen; omega) (by omega) hsn.below.size w.heap.size rfl ?_
  intro g cap w' h1 h2 h3 h4
  refine k g cap w' ?_ (Below.grown hsn h2 hsn.below.size (fun q hq => (World.ownsRow.lt h q hq).1))
  unfold OwnD
  simpa using h1
def PredD (w0 : World) (fid : FuncId) (caps : Array Value) (p : Ed → Bool) (xs : List Ed) : Prop :=
  ∀ x ∈ xs, ∀ w, Since w0 w → Calls Tryz.prog fid (#[.agg #[.int .i64 x.1, .int .i64 x.2.1, .int .i64 x.2.2.1, .int .i64 x.2.2.2]] ++ caps) w fun e w' => e = .returned (.bool (p x)) ∧ Below w.heap.size w w'
def didx (p : Ed → Bool) (xs : List Ed) : Int := match xs.findIdx? p with | some i => (i : Int) | none => -1
theorem didx_none {p : Ed → Bool} {xs : List Ed} (h : xs.any p = false) : didx p xs = -1 := by
  have : xs.findIdx? p = none := by
    rw [List.findIdx?_eq_none_iff]
    intro x hx
    rw [List.any_eq_false] at h
    simpa using h x hx
  simp [didx, this]
theorem didx_found {p : Ed → Bool} {xs : List Ed} {k : Nat} {x : Ed} (hx : xs[k]? = some x) (hp : p x = true) (h : (xs.take k).any p = false) : didx p xs = k := by
  have : xs.findIdx? p = some k := by
    obtain ⟨hk, rfl⟩ := List.getElem?_eq_some_iff.1 hx
    rw [List.findIdx?_eq_some_iff_getElem]
    refine ⟨hk, hp, fun j hj => ?_⟩
    rw [List.any_eq_false] at h
    have := h xs[j] (List.mem_take_iff_getElem.2 ⟨j, by omega, rfl⟩)
    simpa using this
  simp [didx, this]
theorem didx_any (p : Ed → Bool) (xs : List Ed) : decide (0 ≤ didx p xs) = xs.any p := by
  unfold didx
  cases h : xs.findIdx? p with
  | none =>
    rw [List.findIdx?_eq_none_iff] at h
    have : xs.any p = false := by rw [List.any_eq_false]; intro x hx; simp [h x hx]
    rw [this]; rfl
  | some i =>
    rw [List.findIdx?_eq_some_iff_getElem] at h
    obtain ⟨hi, hp, -⟩ := h
    have : xs.any p = true := List.any_eq_true.2 ⟨_, List.getElem_mem hi, hp⟩
    rw [this]; simp
theorem any_snocD {p : Ed → Bool} {xs : List Ed} {k : Nat} {x : Ed} (hx : xs[k]? = some x) (h : (xs.take k).any p = false) (hp : p x = false) : (xs.take (k + 1)).any p = false := by
  rw [take_snoc hx, List.any_append, h]
  simp [hp]
set_option maxHeartbeats 4000000 in
theorem indexFuncD_any (v : Value) (xs : List Ed) (fid : FuncId) (caps : Array Value) (p : Ed → Bool) (w : World) (h : EdgeS w v xs) (henter : ∀ args w, (callFunc fid args).run Tryz.prog w = .ok (.enter fid args) w) (hp : PredD w fid caps p xs) :
    Calls Tryz.prog 158 #[v, .func (.func fid) #[] caps] w fun e w' => e = .returned (.int .i64 (didx p xs)) ∧ Below w.heap.size w w' := by
  have H := Lib.hid h
  obtain ⟨A, c, rfl, hm, hlc, hA⟩ := h
  unfold maxLen at hm
  have HA := Lib.hid hA
  clear hA
  have Hp := Lib.hid hp
  have eg := henter
  clear hp
  go_enter Tryz.func158, Tryz.ntmps158
  go_wp2
  go_loopw [8] (fun i wr => ∃ k : Nat, k ≤ xs.length ∧ i = .int .i64 k ∧ (xs.take k).any p = false ∧ Since w wr) (fun i _ => xs.length - (intOf i).toNat)
  case atStart => exact ⟨0, Nat.zero_le _, rfl, rfl, since_refl _⟩
  case round =>
    obtain ⟨k, hk, rfl, hany, hb⟩ := hrel
    have Hany := Lib.hid hany
    have Hb := Lib.hid hb
    clear hany hb
    by_cases hlt : k < xs.length
    · obtain ⟨x, hx⟩ := getx xs k hlt
      obtain ⟨b, rfl, hc0, hc1, hc2, hc3⟩ := HA.out k x hx
      have d0 := Hb.out.cell hc0
      have d1 := Hb.out.cell hc1
      have d2 := Hb.out.cell hc2
      have d3 := Hb.out.cell hc3
      have Hx := Lib.hid hx
      clear hx hc0 hc1 hc2 hc3
      obtain ⟨y, hy⟩ : ∃ y, y = p x := ⟨_, rfl⟩
      have Hy := Lib.hid hy
      have hcall := Hp.out x (List.mem_of_getElem? Hx.out) _ Hb.out
      rw [← hy] at hcall
      have Hcall := Lib.hid hcall
      clear hy hcall
      go_wp2_with fail
      refine Hcall.out.mono ?_
      rintro e w1 ⟨rfl, hb1⟩
      have Hb1 := Lib.hid (Hb.out.trans hb1)
      clear hb1
      cases y
      · go_wp2
        go_roundw
        case rel => exact ⟨k + 1, by omega, by go_num, any_snocD Hx.out Hany.out Hy.out.symm, Hb1.out⟩
        case measure => simp [intOf]; omega
      · have Hr : Hid (didx p xs = k) := didx_found Hx.out Hy.out.symm Hany.out
        go_wp2
        go_ret
        exact ⟨congrArg (fun i => Ending.returned (.int .i64 i)) Hr.out.symm, Hb1.out⟩
    · obtain rfl : k = xs.length := by omega
      have Hr : Hid (didx p xs = -1) := didx_none (by have := Hany.out; rwa [List.take_length] at this)
      go_wp2
      go_ret
      exact ⟨congrArg (fun i => Ending.returned (.int .i64 i)) Hr.out.symm, Hb.out⟩
theorem containsFuncD_any (v : Value) (xs : List Ed) (fid : FuncId) (caps : Array Value) (p : Ed → Bool) (w : World) (h : EdgeS w v xs) (henter : ∀ args w, (callFunc fid args).run Tryz.prog w = .ok (.enter fid args) w) (hp : PredD w fid caps p xs) :
    Calls Tryz.prog 140 #[v, .func (.func fid) #[] caps] w fun e w' => e = .returned (.bool (xs.any p)) ∧ Below w.heap.size w w' := by
  have hi := Lib.hid (indexFuncD_any v xs fid caps p w h henter hp)
  have He := Lib.hid (didx_any p xs)
  obtain ⟨A, c, rfl, hm, hlc, hA⟩ := h
  go_enter Tryz.func140, Tryz.ntmps140
  go_wp2_with fail
  refine hi.out.mono ?_
  rintro e w1 ⟨rfl, hb⟩
  have Hb := Lib.hid hb
  clear hb
  go_wp2
  go_ret
  exact ⟨congrArg (fun b => Ending.returned (.bool b)) He.out, Hb.out⟩
end Go.Proofs.YtfkmkpamdlhbgaaGreat
namespace Go.Proofs.YtfkmkpamdlhbgaaGreat
open Go.RowKit
def keepE (v i : Nat) (e : Int × Int) : Bool := decide ((v : Int) < e.1) || (((v : Int) == e.1) && decide ((i : Int) ≤ e.2))
def eone (v i : Nat) (e : Int × Int) : List Ed := if keepE v i e then [((v : Int), (i : Int), e.1, e.2)] else []
def erow (v : Nat) (es : List (Int × Int)) (i : Nat) : List Ed := (List.range i).flatMap fun j => eone v j (es.getD j (0, 0))
def rowOf (n : Net) (u : Nat) : List (Int × Int) := n.ends.getD u []
def edgesTo (n : Net) (v : Nat) : List Ed := (List.range v).flatMap fun u => erow u (rowOf n u) (rowOf n u).length
def edgesB (n : Net) : List Ed := edgesTo n n.ends.length
theorem erow_succ (v : Nat) (es : List (Int × Int)) (i : Nat) : erow v es (i + 1) = erow v es i ++ eone v i (es.getD i (0, 0)) := by
  unfold erow
  rw [List.range_succ, List.flatMap_append]
  simp
theorem edgesTo_succ (n : Net) (v : Nat) : edgesTo n (v + 1) = edgesTo n v ++ erow v (rowOf n v) (rowOf n v).length := by
  unfold edgesTo
  rw [List.range_succ, List.flatMap_append]
  simp
theorem erow_len (v : Nat) (es : List (Int × Int)) (i : Nat) : (erow v es i).length ≤ i := by
  induction i with
  | zero => simp [erow]
  | succ i ih =>
    rw [erow_succ, List.length_append]
    have : (eone v i (es.getD i (0, 0))).length ≤ 1 := by unfold eone; split <;> simp
    omega
theorem edgesTo_len {n : Net} (hn : netOk n = true) (v : Nat) : (edgesTo n v).length ≤ 6 * v := by
  induction v with
  | zero => simp [edgesTo]
  | succ v ih =>
    rw [edgesTo_succ, List.length_append]
    have h1 := erow_len v (rowOf n v) (rowOf n v).length
    have h2 : (rowOf n v).length ≤ 6 := by
      unfold rowOf
      rw [List.getD_eq_getElem?_getD]
      cases h : n.ends[v]? with
      | none => simp
      | some es => exact (netOk_row hn h).1
    omega
theorem mem_edges {n : Net} {e : Ed} : e ∈ edgesB n ↔ ∃ v i, v < n.ends.length ∧ i < (rowOf n v).length ∧ keepE v i ((rowOf n v).getD i (0, 0)) = true ∧ e = ((v : Int), (i : Int), ((rowOf n v).getD i (0, 0)).1, ((rowOf n v).getD i (0, 0)).2) := by
  unfold edgesB edgesTo erow
  simp only [List.mem_flatMap, List.mem_range]
  constructor
  · rintro ⟨v, hv, i, hi, he⟩
    unfold eone at he
    split at he
    · rename_i hk
      exact ⟨v, i, hv, hi, hk, by simpa using he⟩
    · simp at he
  · rintro ⟨v, i, hv, hi, hk, rfl⟩
    exact ⟨v, hv, i, hi, by unfold eone; rw [if_pos hk]; simp⟩
end Go.Proofs.YtfkmkpamdlhbgaaGreat
namespace Go.Proofs.YtfkmkpamdlhbgaaGreat
open Go.RowKit
set_option maxRecDepth 100000 in
set_option maxHeartbeats 4000000 in
theorem edges_any (ve vi vn : Value) (n : Net) (w : World) (h : NetIn w ve vi vn n) (hn : netOk n = true) :
    Calls Tryz.prog 97 #[.agg #[ve, vi, vn]] w fun e w' => ∃ u, e = .returned u ∧ OwnD w' w.heap.size u (edgesB n) ∧ Below w.heap.size w w' := by
  have hn40 := (netOk_len hn).2
  obtain ⟨w0, hw0⟩ : ∃ w0, w0 = (w).alloc (.cells #[ve, vi, vn] 27) := ⟨_, rfl⟩
  have hb0 : Below w.heap.size w w0 := by rw [hw0]; exact ((Below.refl _ _).alloc (by simp) _)
  have H := Lib.hid (h.keep hb0)
  obtain ⟨h1, h2, h3⟩ := h.keep hb0
  obtain ⟨A, c, rfl, hlc, hm, hA⟩ := h1
  obtain ⟨A2, c2, rfl, _, hm2, _⟩ := h2
  obtain ⟨A3, c3, rfl, _, hm3, _⟩ := h3
  unfold maxLen at hm hm2 hm3
  have p00 : ∀ W, Since w0 W → W.cell? ⟨w.heap.size, 0, none⟩ = some (.slice A n.ends.length c) := have_cell (by rw [hw0]; simp)
  have p01 : ∀ W, Since w0 W → W.cell? ⟨w.heap.size, 1, none⟩ = some (.slice A2 n.ids.length c2) := have_cell (by rw [hw0]; simp)
  have p02 : ∀ W, Since w0 W → W.cell? ⟨w.heap.size, 2, none⟩ = some (.slice A3 n.inputs.length c3) := have_cell (by rw [hw0]; simp)
  have Hb0 := Lib.hid hb0
  have Hw0 := Lib.hid hw0
  have HA := Lib.hid hA
  clear hA h
  clear hb0 hw0
  have Hn := Lib.hid hn
  have hs0 : Since w0 w0 := since_refl _
  clear hn
  go_enter Tryz.func97, Tryz.ntmps97
  go_upto_region 1 with (fail)
  rw [← Hw0.out]
  go_wp2
  go_loopw [3, 11] (fun u i wr => ∃ k : Nat, k ≤ n.ends.length ∧ i = .int .i64 k ∧ OwnD wr w0.heap.size u (edgesTo n k) ∧ Since w0 wr) (fun _ i _ => n.ends.length - (intOf i).toNat)
  case atStart => exact ⟨0, Nat.zero_le _, rfl, by simpa [edgesTo] using ownD_nil _ w0.heap.size, hs0⟩
  case round =>
    obtain ⟨k, hk, rfl, ho, hs⟩ := hrel
    have Ho := Lib.hid ho
    have Hs := Lib.hid hs
    clear hs0 ho hs
    by_cases hlt : k < n.ends.length
    · obtain ⟨es, hes⟩ := getx n.ends k hlt
      obtain ⟨hes6, -⟩ := netOk_row Hn.out hes
      have Hrow : Hid (rowOf n k = es) := by show _ = _; rw [rowOf, List.getD_eq_getElem?_getD, hes]; rfl
      obtain ⟨b, offr, cr, ur, hA1, hkr, hc1, hrow⟩ := row_at H.out.es hes
      cases hA1
      obtain ⟨A1, z1, rfl, hz1, hz2, hA1⟩ := hrow
      unfold maxLen at hz2
      have HA1 := Lib.hid hA1
      have r1 := lift_cell (have_cell hc1) Hs.out
      have q5 := r1 wr (since_refl _)
      have q0 := p00 wr Hs.out
      have hel := edgesTo_len Hn.out k
      have Hel := Lib.hid hel
      clear hes hc1 hA1 hel
      go_wp2
      go_loopw [3, 18] (fun u i wr => ∃ j : Nat, j ≤ es.length ∧ i = .int .i64 j ∧ OwnD wr w0.heap.size u (edgesTo n k ++ erow k es j) ∧ Since w0 wr) (fun _ i _ => es.length - (intOf i).toNat)
      case atStart => exact ⟨0, Nat.zero_le _, rfl, by simpa [erow] using Ho.out, Hs.out⟩
      case round =>
        obtain ⟨j, hj, rfl, ho, hs⟩ := hrel
        have Ho2 := Lib.hid ho
        have Hs2 := Lib.hid hs
        clear ho hs
        by_cases hlj : j < es.length
        · obtain ⟨⟨x1, x2⟩, hx⟩ := getx es j hlj
          obtain ⟨b1, off1, rfl, hd1, hd2⟩ := HA1.out j _ hx
          have t1 := have_cell hd1 wr Hs2.out
          have t2 := have_cell hd2 wr Hs2.out
          have Hgd : Hid (es.getD j (0, 0) = (x1, x2)) := getD_of hx
          obtain ⟨w8, hw8⟩ : ∃ w8, w8 = wr.alloc (.cells #[.int .i64 x1, .int .i64 x2] 62) := ⟨_, rfl⟩
          obtain ⟨be, hbe⟩ : ∃ be, be = wr.heap.size := ⟨_, rfl⟩
          have d0 : ∀ W, Since w8 W → W.cell? ⟨be, 0, none⟩ = some (.int .i64 x1) := have_cell (by rw [hw8, hbe]; simp)
          have d1 : ∀ W, Since w8 W → W.cell? ⟨be, 1, none⟩ = some (.int .i64 x2) := have_cell (by rw [hw8, hbe]; simp)
          have Ho8 : Hid (OwnD w8 w0.heap.size u3 (edgesTo n k ++ erow k es j)) := by rw [hw8]; exact Ho2.out.keep (since_alloc _ (since_refl _))
          have Hs8 : Hid (Since w0 w8) := by rw [hw8]; exact since_alloc _ Hs2.out
          have Hw8 := Lib.hid hw8
          have Hbe := Lib.hid hbe
          have m3 : IntKind.i64.wrap ((j : Int) + 1) = (j : Int) + 1 := wr64 _ (by omega) (by omega)
          clear hx hd1 hd2 hw8 hbe
          go_upto_region 8 with (fail)
          rw [← Hw8.out, ← Hbe.out]
          clear t1 t2
          refine wp_region_flow0 16 (Since w8) (since_refl _) ?_
          simp only [List.take_succ_cons, List.take_zero, List.drop_succ_cons, List.drop_zero]
          refine flow_val (v := ?_) rfl ?_ ?_; rotate_left; (intro W hW; go_simp; with_reducible rfl)
          simp only [Act.put, List.setIfInBounds_toArray, List.set_cons_succ, List.set_cons_zero]
          refine flow_val (v := ?_) rfl ?_ ?_; rotate_left; (intro W hW; go_simp; with_reducible rfl)
          simp only [Act.put, List.setIfInBounds_toArray, List.set_cons_succ, List.set_cons_zero]
          refine flow_val (v := ?_) rfl ?_ ?_; rotate_left; (intro W hW; go_simp; with_reducible rfl)
          simp only [Act.put, List.setIfInBounds_toArray, List.set_cons_succ, List.set_cons_zero]
          refine flow_val (v := ?_) rfl ?_ ?_; rotate_left; (intro W hW; go_simp; with_reducible rfl)
          simp only [Act.put, List.setIfInBounds_toArray, List.set_cons_succ, List.set_cons_zero]
          refine flow_val (v := ?_) rfl ?_ ?_; rotate_left; (intro W hW; go_simp; with_reducible rfl)
          simp only [Act.put, List.setIfInBounds_toArray, List.set_cons_succ, List.set_cons_zero]
          refine flow_gval (v := ?_) rfl rfl ?_ ?_; rotate_left; (intro hb; intro W hW; go_simp; with_reducible rfl)
          simp only [Act.put, List.setIfInBounds_toArray, List.set_cons_succ, List.set_cons_zero]
          refine flow_gval (v := ?_) rfl rfl ?_ ?_; rotate_left; (intro hb; intro W hW; go_simp; with_reducible rfl)
          simp only [Act.put, List.setIfInBounds_toArray, List.set_cons_succ, List.set_cons_zero]
          refine flow_gval (v := ?_) rfl rfl ?_ ?_; rotate_left; (intro hb; intro W hW; go_simp; with_reducible rfl)
          simp only [Act.put, List.setIfInBounds_toArray, List.set_cons_succ, List.set_cons_zero]
          refine flow_gval (v := ?_) rfl rfl ?_ ?_; rotate_left; (intro hb; intro W hW; go_simp; with_reducible rfl)
          simp only [Act.put, List.setIfInBounds_toArray, List.set_cons_succ, List.set_cons_zero]
          refine flow_gval (v := ?_) rfl rfl ?_ ?_; rotate_left; (intro hb; intro W hW; go_simp; with_reducible rfl)
          simp only [Act.put, List.setIfInBounds_toArray, List.set_cons_succ, List.set_cons_zero]
          refine flow_gval2 (v := ?_) rfl rfl ?_ ?_; rotate_left; (intro hb hb2; intro W hW; go_simp; with_reducible rfl)
          simp only [Act.put, List.setIfInBounds_toArray, List.set_cons_succ, List.set_cons_zero]
          refine flow_gval2 (v := ?_) rfl rfl ?_ ?_; rotate_left; (intro hb hb2; intro W hW; go_simp; with_reducible rfl)
          simp only [Act.put, List.setIfInBounds_toArray, List.set_cons_succ, List.set_cons_zero]
          refine flow_gval2 (v := ?_) rfl rfl ?_ ?_; rotate_left; (intro hb hb2; intro W hW; go_simp; with_reducible rfl)
          simp only [Act.put, List.setIfInBounds_toArray, List.set_cons_succ, List.set_cons_zero]
          refine flow_gval2 (v := ?_) rfl rfl ?_ ?_; rotate_left; (intro hb hb2; intro W hW; go_simp; with_reducible rfl)
          simp only [Act.put, List.setIfInBounds_toArray, List.set_cons_succ, List.set_cons_zero]
          refine flow_gand rfl rfl rfl ?_
          simp only [Act.put, List.setIfInBounds_toArray, List.set_cons_succ, List.set_cons_zero]
          first | refine flow_or rfl rfl ?_ | (refine flow_val (v := ?_) rfl ?_ ?_; rotate_left; (intro W hW; go_simp; with_reducible rfl))
          simp only [Act.put, List.setIfInBounds_toArray, List.set_cons_succ, List.set_cons_zero]
          intro W hW
          have HsW := Lib.hid (Hs8.out.after hW)
          have HoW := Lib.hid (Ho8.out.keep hW)
          have c0 := d0 W hW
          have c1 := d1 W hW
          have Hlen : Hid ((edgesTo n k ++ erow k es j).length + 1 ≤ 1000000) := by
            have h1 := Hel.out
            have h2 := erow_len k es j
            show _ ≤ _
            rw [List.length_append]
            omega
          have Hnx : Hid (edgesTo n k ++ erow k es (j + 1) = (edgesTo n k ++ erow k es j) ++ eone k j (x1, x2)) := by show _ = _; rw [erow_succ, Hgd.out, List.append_assoc]
          cases hg : (decide ((k : Int) < x1) || ((k : Int) == x1 && decide ((j : Int) ≤ x2)))
          · have Hno : Hid (eone k j (x1, x2) = []) := by show _ = _; unfold eone; rw [if_neg]; rw [show keepE k j (x1, x2) = false from hg]; simp
            clear hg hW d0 d1 c0 c1
            go_wp2
            go_roundw
            case rel => exact ⟨j + 1, by omega, by go_num, by rw [Hnx.out, Hno.out, List.append_nil]; exact HoW.out, HsW.out⟩
            case measure => simp [intOf]; omega
          · have Hyes : Hid (eone k j (x1, x2) = [((k : Int), (j : Int), x1, x2)]) := by show _ = _; unfold eone; rw [if_pos (show keepE k j (x1, x2) = true from hg)]
            clear hg hW d0 d1
            go_wp2_with (at_builtin; refine app_edge rfl _ _ rfl rfl (HoW.out.keep (since_alloc _ (since_refl _))) W.heap.size ((k : Int), (j : Int), x1, x2) rfl (by simp [go_sem]) (by simp [go_sem]) (by simp [go_sem]) (by simp [go_sem]) Hlen.out (since_alloc _ HsW.out) ?_; intro g9 c9 w9 ho9 hs9)
            have Ho9 := Lib.hid ho9
            have Hs9 := Lib.hid hs9
            clear ho9 hs9 c0 c1
            go_wp2
            go_roundw
            case rel => exact ⟨j + 1, by omega, by go_num, by rw [Hnx.out, Hyes.out]; have := Ho9.out; first | exact this | (rw [List.length_append] at this; exact this), Hs9.out⟩
            case measure => simp [intOf]; omega
        · obtain rfl : j = es.length := by omega
          have Hnx : Hid (edgesTo n (k + 1) = edgesTo n k ++ erow k es es.length) := by show _ = _; rw [edgesTo_succ, Hrow.out]
          have m3 : IntKind.i64.wrap ((k : Int) + 1) = (k : Int) + 1 := wr64 _ (by omega) (by omega)
          go_wp2
          go_roundw
          case rel => exact ⟨k + 1, by omega, by go_num, by rw [Hnx.out]; exact Ho2.out, Hs2.out⟩
          case measure => simp [intOf]; omega
    · obtain rfl : k = n.ends.length := by omega
      go_wp2
      go_ret
      exact ⟨_, rfl, Ho.out.mono Hb0.out.size, Since.after Hb0.out Hs.out⟩
end Go.Proofs.YtfkmkpamdlhbgaaGreat
namespace Go.Proofs.YtfkmkpamdlhbgaaGreat
open Go.RowKit
/-! forests: edges, nodes and components -/
inductive Con (E : List (Nat × Nat)) (a : Nat) : Nat → Prop
  | refl : Con E a a
  | step {b c : Nat} : Con E a b → ((b, c) ∈ E ∨ (c, b) ∈ E) → Con E a c
theorem Con.trans {E : List (Nat × Nat)} {a b c : Nat} (h : Con E a b) (k : Con E b c) : Con E a c := by
  induction k with
  | refl => exact h
  | step _ hs ih => exact ih.step hs
theorem Con.one {E : List (Nat × Nat)} {a b : Nat} (h : (a, b) ∈ E ∨ (b, a) ∈ E) : Con E a b := Con.refl.step h
theorem Con.symm {E : List (Nat × Nat)} {a b : Nat} (h : Con E a b) : Con E b a := by
  induction h with
  | refl => exact .refl
  | step _ hs ih => exact (Con.one hs.symm).trans ih
theorem Con.sub {E F : List (Nat × Nat)} (hs : ∀ e ∈ E, e ∈ F) {a b : Nat} (h : Con E a b) : Con F a b := by
  induction h with
  | refl => exact .refl
  | step _ k ih => exact ih.step (k.imp (hs _) (hs _))
theorem Con.cons_iff {E : List (Nat × Nat)} {x y a b : Nat} : Con ((a, b) :: E) x y ↔ Con E x y ∨ (Con E x a ∧ Con E b y) ∨ (Con E x b ∧ Con E a y) := by
  constructor
  · intro h
    induction h with
    | refl => exact .inl .refl
    | @step u v _ k ih =>
      have k' : (u = a ∧ v = b) ∨ (u = b ∧ v = a) ∨ ((u, v) ∈ E ∨ (v, u) ∈ E) := by
        rcases k with k | k
        · rcases List.mem_cons.1 k with e | k
          · cases e; exact .inl ⟨rfl, rfl⟩
          · exact .inr (.inr (.inl k))
        · rcases List.mem_cons.1 k with e | k
          · cases e; exact .inr (.inl ⟨rfl, rfl⟩)
          · exact .inr (.inr (.inr k))
      rcases k' with ⟨rfl, rfl⟩ | ⟨rfl, rfl⟩ | k'
      · rcases ih with ih | ⟨i1, i2⟩ | ⟨i1, i2⟩
        · exact .inr (.inl ⟨ih, .refl⟩)
        · exact .inr (.inl ⟨i1, .refl⟩)
        · exact .inl i1
      · rcases ih with ih | ⟨i1, i2⟩ | ⟨i1, i2⟩
        · exact .inr (.inr ⟨ih, .refl⟩)
        · exact .inl i1
        · exact .inr (.inr ⟨i1, .refl⟩)
      · rcases ih with ih | ⟨i1, i2⟩ | ⟨i1, i2⟩
        · exact .inl (ih.step k')
        · exact .inr (.inl ⟨i1, i2.step k'⟩)
        · exact .inr (.inr ⟨i1, i2.step k'⟩)
  · have s : ∀ {u v}, Con E u v → Con ((a, b) :: E) u v := fun h => h.sub fun e he => List.mem_cons_of_mem _ he
    have e : Con ((a, b) :: E) a b := Con.one (.inl (by simp))
    rintro (h | ⟨h1, h2⟩ | ⟨h1, h2⟩)
    · exact s h
    · exact (s h1).trans (e.trans (s h2))
    · exact (s h1).trans (e.symm.trans (s h2))
def Least (E : List (Nat × Nat)) (v : Nat) : Prop := ∀ u, Con E v u → v ≤ u
theorem least_exF (E : List (Nat × Nat)) : ∀ (k a : Nat), a ≤ k → ∃ m, Con E a m ∧ Least E m := by
  intro k
  induction k with
  | zero => intro a ha; exact ⟨a, .refl, fun u _ => by omega⟩
  | succ k ih =>
    intro a ha
    by_cases h : Least E a
    · exact ⟨a, .refl, h⟩
    · unfold Least at h
      have ⟨u, hu⟩ := Classical.not_forall.1 h
      have ⟨h1, h2⟩ := Classical.not_imp.1 hu
      obtain ⟨m, g1, g2⟩ := ih u (by omega)
      exact ⟨m, h1.trans g1, g2⟩
theorem Least.eq {E : List (Nat × Nat)} {a b : Nat} (ha : Least E a) (hb : Least E b) (h : Con E a b) : a = b := Nat.le_antisymm (ha b h) (hb a h.symm)
open Classical in
noncomputable def parts (E : List (Nat × Nat)) (n : Nat) : Nat := (List.range n).countP fun v => decide (Least E v)
def Inside (E : List (Nat × Nat)) (n : Nat) : Prop := ∀ e ∈ E, e.1 < n ∧ e.2 < n
theorem count_one {n m : Nat} (P Q : Nat → Bool) (hm : m < n) (hq : Q m = true) (h : ∀ v, v < n → P v = (Q v && v != m)) : (List.range n).countP P + 1 = (List.range n).countP Q := by
  induction n with
  | zero => omega
  | succ n ih =>
    rw [List.range_succ, List.countP_append, List.countP_append]
    by_cases he : m = n
    · subst he
      have e1 : (List.range m).countP P = (List.range m).countP Q := by
        apply List.countP_congr
        intro v hv
        have hv' := List.mem_range.1 hv
        rw [h v (by omega)]
        simp; omega
      have e2 : P m = false := by rw [h m (by omega)]; simp
      rw [e1]
      simp [e2, hq]
    · have i := ih (by omega) (fun v hv => h v (by omega))
      have e2 : P n = Q n := by rw [h n (by omega)]; simp; omega
      rw [← i]
      simp [e2]
      omega
open Classical in
theorem parts_same {E : List (Nat × Nat)} {n a b : Nat} (h : Con E a b) : parts ((a, b) :: E) n = parts E n := by
  unfold parts
  apply List.countP_congr
  intro v _
  have : ∀ u, Con ((a, b) :: E) v u ↔ Con E v u := by
    intro u
    rw [Con.cons_iff]
    exact ⟨fun k => by
      rcases k with k | ⟨k1, k2⟩ | ⟨k1, k2⟩
      · exact k
      · exact (k1.trans h).trans k2
      · exact (k1.trans h.symm).trans k2, .inl⟩
  rw [decide_eq_true_eq, decide_eq_true_eq]
  exact forall_congr' fun u => by rw [this]
open Classical in
theorem parts_less {E : List (Nat × Nat)} {n a b : Nat} (h : ¬ Con E a b) (ha : a < n) (hb : b < n) : parts ((a, b) :: E) n + 1 = parts E n := by
  obtain ⟨la, a1, a2⟩ := least_exF E a a (Nat.le_refl _)
  obtain ⟨lb, b1, b2⟩ := least_exF E b b (Nat.le_refl _)
  have hla : la ≤ a := a2 a a1.symm
  have hlb : lb ≤ b := b2 b b1.symm
  have hne : la ≠ lb := fun e => h (a1.trans (by rw [e]; exact b1.symm))
  unfold parts
  refine count_one (m := max la lb) _ _ (by omega) ?_ ?_
  · rcases Nat.le_total la lb with k | k
    · rw [Nat.max_eq_right k]; simpa using b2
    · rw [Nat.max_eq_left k]; simpa using a2
  · intro v _
    rw [Bool.eq_iff_iff]
    simp only [decide_eq_true_eq, Bool.and_eq_true, bne_iff_ne, ne_eq]
    have hj : Con ((a, b) :: E) la lb := Con.cons_iff.2 (.inr (.inl ⟨a1.symm, b1⟩))
    constructor
    · intro hv
      refine ⟨fun u hu => hv u (Con.cons_iff.2 (.inl hu)), fun e => ?_⟩
      rcases Nat.le_total la lb with k | k
      · rw [Nat.max_eq_right k] at e; subst e; have := hv la hj.symm; omega
      · rw [Nat.max_eq_left k] at e; subst e; have := hv lb hj; omega
    · rintro ⟨hv, hm⟩ u hu
      rcases Con.cons_iff.1 hu with k | ⟨k1, k2⟩ | ⟨k1, k2⟩
      · exact hv u k
      · have e := Least.eq hv a2 (k1.trans a1)
        have := b2 u (b1.symm.trans k2)
        omega
      · have e := Least.eq hv b2 (k1.trans b1)
        have := a2 u (a1.symm.trans k2)
        omega
open Classical in
theorem parts_nil (n : Nat) : parts [] n = n := by
  unfold parts
  rw [List.countP_eq_length.2]
  · simp
  · intro v _
    have : Least [] v := by
      intro u hu
      have : ∀ {x y}, Con [] x y → x = y := by
        intro x y h
        induction h with
        | refl => rfl
        | step _ k _ => simp at k
      rw [this hu]
      exact Nat.le_refl _
    simpa using this
theorem parts_ge {E : List (Nat × Nat)} {n : Nat} (h : Inside E n) : n ≤ parts E n + E.length := by
  induction E with
  | nil => rw [parts_nil]; simp
  | cons e E ih =>
    obtain ⟨a, b⟩ := e
    have i := ih fun e he => h e (List.mem_cons_of_mem _ he)
    have hab := h (a, b) (by simp)
    by_cases hc : Con E a b
    · rw [parts_same hc]; simp; omega
    · have := parts_less hc hab.1 hab.2
      simp; omega
open Classical in
theorem parts_perm {E F : List (Nat × Nat)} {n : Nat} (h : ∀ e, e ∈ E ↔ e ∈ F) : parts E n = parts F n := by
  unfold parts
  apply List.countP_congr
  intro v _
  have : ∀ u, Con E v u ↔ Con F v u := fun u => ⟨Con.sub fun e => (h e).1, Con.sub fun e => (h e).2⟩
  rw [decide_eq_true_eq, decide_eq_true_eq]
  exact forall_congr' fun u => by rw [this]
theorem mem_erase_idx {α : Type} {E : List α} {i : Nat} {e : α} (h : E[i]? = some e) (x : α) : x ∈ E ↔ x ∈ e :: E.eraseIdx i := by
  obtain ⟨hl, rfl⟩ := List.getElem?_eq_some_iff.1 h
  rw [List.eraseIdx_eq_take_drop_succ]
  have e : E = E.take i ++ E[i] :: E.drop (i + 1) := by rw [← List.drop_eq_getElem_cons hl, List.take_append_drop]
  have e2 : x ∈ E ↔ x ∈ E.take i ++ E[i] :: E.drop (i + 1) := by rw [← e]
  rw [e2]
  simp only [List.mem_append, List.mem_cons]
  constructor
  · rintro (k | k | k)
    · exact .inr (.inl k)
    · exact .inl k
    · exact .inr (.inr k)
  · rintro (k | k | k)
    · exact .inr (.inl k)
    · exact .inl k
    · exact .inr (.inr k)
/-- all edges are bridges exactly if there are as few as can be -/
theorem forest_iff {E : List (Nat × Nat)} {n : Nat} (h : Inside E n) : parts E n + E.length = n ↔ ∀ (i : Nat) (e : Nat × Nat), E[i]? = some e → ¬ Con (E.eraseIdx i) e.1 e.2 := by
  constructor
  · intro hn i e he hc
    obtain ⟨hl, _⟩ := List.getElem?_eq_some_iff.1 he
    have e1 : parts E n = parts (e :: E.eraseIdx i) n := parts_perm (mem_erase_idx he)
    have e2 := parts_same (n := n) hc
    have e3 := parts_ge (E := E.eraseIdx i) (n := n) fun x hx => h x (List.mem_of_mem_eraseIdx hx)
    rw [List.length_eraseIdx_of_lt hl] at e3
    rw [show (e.1, e.2) = e from rfl] at e2
    omega
  · intro hb
    induction E with
    | nil => rw [parts_nil]; simp
    | cons e E ih =>
      obtain ⟨a, b⟩ := e
      have hab := h (a, b) (by simp)
      have h0 := hb 0 (a, b) rfl
      simp only [List.eraseIdx_cons_zero] at h0
      have i := ih (fun e he => h e (List.mem_cons_of_mem _ he)) fun i e he hc => hb (i + 1) e (by simpa using he) (hc.sub fun x hx => by rw [List.eraseIdx_cons_succ]; exact List.mem_cons_of_mem _ hx)
      have := parts_less h0 hab.1 hab.2
      simp; omega
end Go.Proofs.YtfkmkpamdlhbgaaGreat
