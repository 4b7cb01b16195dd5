/- Parts of the proof: walks of functions and plain laws. -/
import Derived.Test.YtomnaabadohecaaP11
import Derived.Test.YtomnaabadohecaaP10
import Derived.Test.YtomnaabadohecaaP5
import Derived.Test.YtomnaabadohecaaP8
import Derived.ArgAppend
namespace Go.Proofs.Ytomnaabadohecaa
open Go.RowKit
/-- the least number of rejecting nodes among the first k lists, and the first list with it -/
def leastR (n : Net) (s : Int) (B : Nat) : Nat → Nat × List Int
  | 0 => (n.ends.length + 1, [])
  | k + 1 => if (rejL n s (listB B n.ends.length k)).length < (leastR n s B k).1 then ((rejL n s (listB B n.ends.length k)).length, listB B n.ends.length k) else leastR n s B k
theorem leastR_bd {n : Net} {s : Int} {B : Nat} (k : Nat) : (leastR n s B k).1 ≤ n.ends.length + 1 ∧ (leastR n s B k).2.length ≤ n.ends.length := by
  induction k with
  | zero => simp [leastR]
  | succ k ih =>
    unfold leastR
    split
    · have := rejL_le n s (listB B n.ends.length k)
      rw [listB_len] at this
      exact ⟨by simp only; omega, by simp only; rw [listB_len]; exact Nat.le_refl _⟩
    · exact ih
def fnExactLeastRejecting_r2 (n : Net) (s most : Int) : Bool := fnExactCountAccepted_r1 n s most
def fnExactLeastRejecting_r0 (n : Net) (s most : Int) : Int := if fnExactCountAccepted_r1 n s most then ((leastR n s (most.toNat + 1) (listsI most n.ends.length).toNat).1 : Int) else 0
def fnExactLeastRejecting_d (n : Net) (s most : Int) : List Int := if fnExactCountAccepted_r1 n s most then (leastR n s (most.toNat + 1) (listsI most n.ends.length).toNat).2 else []
theorem fnExactLeastRejecting_dl (n : Net) (s most : Int) (hsz : szNet n ≤ 1048576) : (fnExactLeastRejecting_d n s most).length ≤ 4611686018427387904 := by
  unfold fnExactLeastRejecting_d
  split
  · have := (leastR_bd (n := n) (s := s) (B := most.toNat + 1) (listsI most n.ends.length).toNat).2
    unfold szNet szEE at hsz
    omega
  · simp
theorem tupiub {a b : Int} {u : Value} {c d : Bool} (h1 : a = b) (h2 : c = d) : Ending.returned (.tuple #[.int .i64 a, u, .bool c]) = .returned (.tuple #[.int .i64 b, u, .bool d]) := by rw [h1, h2]
/-- a cell that holds a slice of integers of the call's own -/
def U1 (W : World) (b : Nat) (u : Value) : Prop := W.heap[b]? = some (.cells #[u] 23)
theorem U1.cells {W : World} {b : Nat} {u : Value} (h : U1 W b u) : W.cell? ⟨b, 0, none⟩ = some u ∧ W.frozen? ⟨b, 0, none⟩ = false := by
  unfold U1 at h
  constructor
  · simp [World.cell?, h]
  · simp [World.frozen?, h]
theorem U1.lt {W : World} {b : Nat} {u : Value} (h : U1 W b u) : b < W.heap.size := (Array.getElem?_eq_some_iff.1 h).1
theorem U1.since {W W' : World} {b : Nat} {u : Value} (h : U1 W b u) (hs : Since W W') : U1 W' b u := (hs.below.block b h.lt).trans h
theorem U1.only {W W' : World} {b : Nat} {u : Value} {S : List Nat} (h : U1 W b u) (ho : Only S W W') (hb : b ∉ S) : U1 W' b u := (ho.block b h.lt hb).trans h
theorem U1.other {W : World} {b b' : Nat} {u : Value} (h : U1 W b u) (hb : b ≠ b') (i : Nat) (v : Value) : U1 (W.setCell ⟨b', i, none⟩ v) b u := (Below.heap_setCell W _ v b hb).trans h
theorem I1.other {W : World} {b b' : Nat} {x : Int} (h : I1 W b x) (hb : b ≠ b') (i : Nat) (v : Value) : I1 (W.setCell ⟨b', i, none⟩ v) b x := (Below.heap_setCell W _ v b hb).trans h
theorem U1.set {W : World} {b : Nat} {u : Value} (h : U1 W b u) (v : Value) : U1 (W.setCell ⟨b, 0, none⟩ v) b v := by
  unfold U1 at *
  simp [World.setCell, Array.getElem?_modify, h]
theorem U1.new (W : World) (u : Value) : U1 (W.alloc (.cells #[u] 23)) W.heap.size u := by
  unfold U1
  show (W.heap.push _)[W.heap.size]? = _
  rw [Array.getElem?_push_size]
/-- what the call with the list ls leaves -/
def LeastP (W W' : World) (bl bb : Nat) (q r : Nat) (u : Value) (ls : List Int) : Prop :=
  Only [bl, bb] W W' ∧ ((r < q ∧ I1 W' bl r ∧ ∃ u', U1 W' bb u' ∧ Own W' W.heap.size u' ls) ∨ (¬ r < q ∧ I1 W' bl q ∧ U1 W' bb u))
end Go.Proofs.Ytomnaabadohecaa
namespace Go.Proofs.Ytomnaabadohecaa
open Go.RowKit
/-! two colours: the reference -/
theorem own_row {w : World} {base : Nat} {u : Value} {xs : List Int} {k : Nat} {x : Int} (h : Own w base u xs) (hx : xs[k]? = some x) : ∃ g c, u = .slice (some ⟨g, 0, none⟩) xs.length c ∧ w.cell? ⟨g, k, none⟩ = some (.int .i64 x) ∧ base ≤ g := by
  rcases h.cases with ⟨-, e1⟩ | ⟨g, c, rfl, hg1, hg2⟩
  · rw [e1] at hx; simp at hx
  · exact ⟨g, c, rfl, h.cell hx, hg1⟩
theorem distB_len {n : Net} (hn : netOk n = true) {v : Nat} (hv : v < n.ends.length) : (distB n v).length = n.ends.length := bfs_len hn _ _ _ (BI.start hv)
theorem dist_row {w : World} {base : Nat} {u : Value} {n : Net} (hn : netOk n = true) {v k : Nat} (hv : v < n.ends.length) (hk : k < n.ends.length) (h : Own w base u (distB n v)) : ∃ g c d, u = .slice (some ⟨g, 0, none⟩) n.ends.length c ∧ (distB n v)[k]? = some d ∧ w.cell? ⟨g, k, none⟩ = some (.int .i64 d) ∧ base ≤ g := by
  obtain ⟨d, hd⟩ := getx (distB n v) k (by rw [distB_len hn hv]; exact hk)
  obtain ⟨g, c, h1, h2, h3⟩ := own_row h hd
  exact ⟨g, c, d, by rw [h1, distB_len hn hv], hd, h2, h3⟩
def twoTo (n : Net) (k : Nat) : List Int := (List.range n.ends.length).map fun v => if v < k then twoAt n v else 0
theorem twoTo_len (n : Net) (k : Nat) : (twoTo n k).length = n.ends.length := by simp [twoTo]
theorem twoTo_zero (n : Net) : twoTo n 0 = List.replicate n.ends.length 0 := by
  unfold twoTo
  apply List.ext_getElem?
  intro i
  rw [List.getElem?_map, List.getElem?_replicate]
  by_cases h : i < n.ends.length
  · rw [List.getElem?_range h, if_pos h]; rfl
  · rw [List.getElem?_eq_none (by simpa using h), if_neg h]; rfl
theorem twoTo_end (n : Net) : twoTo n n.ends.length = twoB n := by
  unfold twoTo twoB
  apply List.map_congr_left
  intro v hv
  rw [if_pos (List.mem_range.1 hv)]
theorem twoTo_set {n : Net} {k : Nat} (hk : k < n.ends.length) : (twoTo n k).set k (twoAt n k) = twoTo n (k + 1) := by
  apply List.ext_getElem?
  intro i
  unfold twoTo
  rw [List.getElem?_set]
  by_cases h : k = i
  · subst h
    rw [if_pos rfl, List.length_map, List.length_range, if_pos hk, List.getElem?_map, List.getElem?_range hk]
    simp
  · rw [if_neg h, List.getElem?_map, List.getElem?_map]
    by_cases h2 : i < n.ends.length
    · rw [List.getElem?_range h2]
      simp only [Option.map_some, Option.some.injEq]
      by_cases h3 : i < k
      · rw [if_pos h3, if_pos (by omega)]
      · rw [if_neg h3, if_neg (by omega)]
    · rw [List.getElem?_eq_none (by simpa using h2)]; rfl
def twoNo (n : Net) (k : Nat) : Prop := ∀ v, v < k → (bsee n (v : Int)).any (clashV n v) = false
theorem twoNo_end {n : Net} (hn : netOk n = true) (h : twoNo n n.ends.length) : bipB n = true := by
  rw [bip_ports hn, List.all_eq_true]
  intro v hv
  rw [h v (List.mem_range.1 hv)]; rfl
theorem twoNo_hit {n : Net} (hn : netOk n = true) {v : Nat} (hv : v < n.ends.length) {x : Int} (hx : x ∈ bsee n (v : Int)) (hc : clashV n v x = true) : bipB n = false := by
  rw [bip_ports hn, Bool.eq_false_iff]
  intro h
  have := List.all_eq_true.1 h v (List.mem_range.2 hv)
  rw [List.any_eq_true.2 ⟨x, hx, hc⟩] at this
  cases this
set_option maxRecDepth 100000 in
set_option maxHeartbeats 8000000 in
theorem meTwo_any (ve vi vn : Value) (n : Net) (w : World) (h : NetIn w ve vi vn n) (hn : netOk n = true) :
    Calls Try.prog 29 #[.agg #[ve, vi, vn]] w fun e w' => ∃ u, e = .returned (.tuple #[u, .bool (bipB n)]) ∧ Own w' w.heap.size u (if bipB n = true then twoB n else []) ∧ Below w.heap.size w w' := by
  have hnl := netOk_len hn
  have hnl1 := hnl.1
  have hnl2 := hnl.2
  have Hn := Lib.hid hn
  obtain ⟨w0, hw0⟩ : ∃ w0, w0 = (w).alloc (.cells #[ve, vi, vn] 31) := ⟨_, rfl⟩
  have hb0 : Below w.heap.size w w0 := by rw [hw0]; exact ((Below.refl _ _).alloc (by simp) _)
  have H := Lib.hid (h.keep hb0)
  obtain ⟨h1, h2, h3⟩ := h.keep hb0
  obtain ⟨A, c, rfl, hlc, hm, hA⟩ := h1
  obtain ⟨A2, c2, rfl, _, hm2, _⟩ := h2
  obtain ⟨A3, c3, rfl, _, hm3, _⟩ := h3
  unfold maxLen at hm hm2 hm3
  have p00 : ∀ W, Since w0 W → W.cell? ⟨w.heap.size, 0, none⟩ = some (.slice A n.ends.length c) := have_cell (by rw [hw0]; simp)
  have p01 : ∀ W, Since w0 W → W.cell? ⟨w.heap.size, 1, none⟩ = some (.slice A2 n.ids.length c2) := have_cell (by rw [hw0]; simp)
  have p02 : ∀ W, Since w0 W → W.cell? ⟨w.heap.size, 2, none⟩ = some (.slice A3 n.inputs.length c3) := have_cell (by rw [hw0]; simp)
  have Hb0 := Lib.hid hb0
  have Hw0 := Lib.hid hw0
  have HA := Lib.hid hA
  clear hA h
  clear hb0 hw0
  have hs0 : Since w0 w0 := since_refl _
  obtain ⟨rb, hrb⟩ : ∃ rb, bipB n = rb := ⟨_, rfl⟩
  have Hrb := Lib.hid hrb
  rw [hrb]
  clear hn hnl hrb
  go_enter Try.func29, Try.ntmps29
  go_upto_region 1 with (fail)
  rw [← Hw0.out]
  go_wp2_with (at_make; refine mk_ints _ rfl _ _ rfl _ _ n.ends.length rfl rfl rfl rfl (by omega) ?_; intro w1 ho1 hb1 hz1; have hs1 : Since w0 w1 := hb1)
  obtain ⟨g, hg⟩ : ∃ g, g = w0.heap.size := ⟨_, rfl⟩
  rw [← hg] at ho1 hz1 ⊢
  have Hs1 := Lib.hid hs1
  have hgl : Hid (w0.heap.size ≤ g) := by rw [hg]; exact Nat.le_refl _
  have hgw : Hid (g < w1.heap.size) := by show _ < _; omega
  have Ho1 : Hid (Own w1 w0.heap.size (.slice (some ⟨g, 0, none⟩) n.ends.length n.ends.length) (twoTo n 0)) := by rw [twoTo_zero]; exact ho1.mono hgl.out
  clear ho1 hb1 hz1 hs0 hg
  go_wp2_with fail
  refine (meParts_any _ _ _ n w1 (H.out.keep Hs1.out.below) Hn.out).mono ?_
  rintro e w2 ⟨u2, rfl, ho2, hb2⟩
  obtain ⟨gc, cc, rfl⟩ : ∃ gc cc, u2 = .slice (some ⟨gc, 0, none⟩) n.ends.length cc := by
    obtain ⟨x, hx⟩ := getx (compB n) 0 (by simp [compB]; omega)
    obtain ⟨g, c, h1, -⟩ := own_row ho2 hx
    exact ⟨g, c, by rw [h1]; simp [compB]⟩
  have Hne : Hid (g ≠ gc) := by
    obtain ⟨x, hx⟩ := getx (compB n) 0 (by simp [compB]; omega)
    obtain ⟨g', c, h1, -, h3⟩ := own_row ho2 hx
    simp only [Value.slice.injEq, Option.some.injEq, Addr.mk.injEq] at h1
    have := hgw.out
    show _ ≠ _
    omega
  have Ho2 := Lib.hid ho2
  have Hs2 := Lib.hid (Hs1.out.after hb2)
  have Ho12 := Lib.hid (Ho1.out.since hb2)
  clear ho2 hb2 hs1
  go_wp2
  go_loopw [18] (fun i wr => ∃ k : Nat, k ≤ n.ends.length ∧ i = .int .i64 k ∧ Own wr w0.heap.size (.slice (some ⟨g, 0, none⟩) n.ends.length n.ends.length) (twoTo n k) ∧ Own wr w1.heap.size (.slice (some ⟨gc, 0, none⟩) n.ends.length cc) (compB n) ∧ Since w0 wr) (fun i _ => n.ends.length - (intOf i).toNat)
  case atStart => exact ⟨0, Nat.zero_le _, rfl, Ho12.out, Ho2.out, Hs2.out⟩
  case round =>
    obtain ⟨k, hk, rfl, ho, hc, hsr⟩ := hrel
    have Ho := Lib.hid ho
    have Hc := Lib.hid hc
    have Hs := Lib.hid hsr
    clear ho hc hsr
    by_cases hlt : k < n.ends.length
    · have m3 : IntKind.i64.wrap ((k : Int) + 1) = (k : Int) + 1 := wr64 _ (by omega) (by omega)
      obtain ⟨p, hp⟩ : ∃ p, p = leastB n k := ⟨_, rfl⟩
      have hpl : p < n.ends.length := by rw [hp]; exact least_lt Hn.out hlt
      have c1 := have_cell (Hc.out.cell (show (compB n)[k]? = some (p : Int) by rw [hp]; unfold compB; rw [List.getElem?_map, List.getElem?_range hlt]; rfl))
      have Hp := Lib.hid hp
      have q00 := lift_cell p00 Hs.out
      have q01 := lift_cell p01 Hs.out
      have q02 := lift_cell p02 Hs.out
      obtain ⟨y, hy⟩ : ∃ y, y = twoAt n k := ⟨_, rfl⟩
      have Hy := Lib.hid hy
      clear hp hy
      go_upto_region 6 with (fail)
      refine wp_region_chain (w0 := wr) 12 [false, false, false, false, false, false, false, true, false, true, true, true] (by kernel_rfl) (by kernel_rfl) (since_refl _) ?_
      simp only [selF, selT, List.take_succ_cons, List.take_zero, List.drop_succ_cons, List.drop_zero]
      refine pflow_val (v := ?_) rfl ?_ ?_; rotate_left; (intro W hW; go_simp; with_reducible rfl)
      simp only [Act.put, List.setIfInBounds_toArray, List.set_cons_succ, List.set_cons_zero]
      refine pflow_val (v := ?_) rfl ?_ ?_; rotate_left; (intro W hW; go_simp; with_reducible rfl)
      simp only [Act.put, List.setIfInBounds_toArray, List.set_cons_succ, List.set_cons_zero]
      refine pflow_val (v := ?_) rfl ?_ ?_; rotate_left; (intro W hW; go_simp; with_reducible rfl)
      simp only [Act.put, List.setIfInBounds_toArray, List.set_cons_succ, List.set_cons_zero]
      refine pflow_val (v := ?_) rfl ?_ ?_; rotate_left; (intro W hW; go_simp; with_reducible rfl)
      simp only [Act.put, List.setIfInBounds_toArray, List.set_cons_succ, List.set_cons_zero]
      refine pflow_val (v := ?_) rfl ?_ ?_; rotate_left; (intro W hW; go_simp; with_reducible rfl)
      simp only [Act.put, List.setIfInBounds_toArray, List.set_cons_succ, List.set_cons_zero]
      refine pflow_val (v := ?_) rfl ?_ ?_; rotate_left; (intro W hW; go_simp; with_reducible rfl)
      simp only [Act.put, List.setIfInBounds_toArray, List.set_cons_succ, List.set_cons_zero]
      refine pflow_val (v := ?_) rfl ?_ ?_; rotate_left; (intro W hW; go_simp; with_reducible rfl)
      simp only [Act.put, List.setIfInBounds_toArray, List.set_cons_succ, List.set_cons_zero]
      refine pflow_val (v := ?_) rfl ?_ ?_; rotate_left; (intro W hW; go_simp; with_reducible rfl)
      simp only [Act.put, List.setIfInBounds_toArray, List.set_cons_succ, List.set_cons_zero]
      intro W hW
      refine Or.inl ⟨rfl, ?_⟩
      go_simp
      (with_reducible refine (meFrom_any _ _ _ n p W (H.out.keep (Hs.out.after hW).below) Hn.out hpl).mono ?_)
      rintro e W' ⟨u3, rfl, ho3, hb3⟩
      refine ⟨_, rfl, hW.trans hb3, ?_⟩
      replace hW := hW.trans hb3
      obtain ⟨gd, cd, d, rfl, hd, cd1, hgd⟩ := dist_row Hn.out hpl hlt ho3
      have hmod : Int.tmod d 2 = y := by rw [Hy.out]; exact two_mod Hn.out hlt (by rw [← Hp.out]; exact hd)
      have hd0 : 0 ≤ d := by have h9 := (dist_own Hn.out hlt).1; rw [← Hp.out, getD_of hd] at h9; exact h9
      have hmod2 : d % 2 = y := by rw [← hmod]; exact (Int.tmod_eq_emod_of_nonneg hd0).symm
      clear ho3 hb3 hd hd0 hgd
      (try simp only [Act.put, List.setIfInBounds_toArray, List.set_cons_succ, List.set_cons_zero])
      refine tflow_val (v := ?_) rfl ?_ hW ?_; rotate_left; (go_simp; with_reducible rfl)
      simp only [Act.put, List.setIfInBounds_toArray, List.set_cons_succ, List.set_cons_zero]
      refine tflow_val (v := ?_) rfl ?_ hW ?_; rotate_left; (go_simp; with_reducible rfl)
      simp only [Act.put, List.setIfInBounds_toArray, List.set_cons_succ, List.set_cons_zero]
      refine tflow_val (v := ?_) rfl ?_ hW ?_; rotate_left; (go_simp; with_reducible rfl)
      simp only [Act.put, List.setIfInBounds_toArray, List.set_cons_succ, List.set_cons_zero]
      simp only [TFlow]
      have HW := Lib.hid hW
      have HoW := Lib.hid (Ho.out.since hW)
      have HcW := Lib.hid (Hc.out.since hW)
      obtain ⟨z, hz⟩ := getx (twoTo n k) k (by rw [twoTo_len]; exact hlt)
      have cz := HoW.out.cell hz
      have fz := HoW.out.free k
      clear hW c1 q00 q01 q02 cd1 hz
      go_wp2
      go_roundw
      case rel => exact ⟨k + 1, by omega, by first | rfl | go_num, by rw [← twoTo_set hlt, ← Hy.out]; exact HoW.out.set (k := k) y, own_oth HcW.out (by simp [Value.ownBlock]; exact fun e => Hne.out e.symm) _, Below.setCell (Hs.out.after HW.out) hgl.out _⟩
      case measure => simp [intOf]; omega
    · obtain rfl : k = n.ends.length := by omega
      have HT : Hid (Own wr w0.heap.size (.slice (some ⟨g, 0, none⟩) n.ends.length n.ends.length) (twoB n)) := by rw [← twoTo_end]; exact Ho.out
      clear hk hlt Ho Hc
      go_wp2
      go_loopw [37] (fun i wq => ∃ j : Nat, j ≤ n.ends.length ∧ i = .int .i64 j ∧ twoNo n j ∧ Since wr wq) (fun i _ => n.ends.length - (intOf i).toNat)
      case atStart => exact ⟨0, Nat.zero_le _, rfl, fun v hv => by omega, since_refl _⟩
      case round =>
        obtain ⟨j, hj, rfl, hnc, hsq⟩ := hrel
        have Hnc := Lib.hid hnc
        have Hsq := Lib.hid hsq
        clear hnc hsq
        by_cases hlj : j < n.ends.length
        · obtain ⟨es, hes⟩ := getx n.ends j hlj
          have hrow := netOk_row Hn.out hes
          have hes6 := hrow.1
          have Hrow := Lib.hid hrow.2
          have Hs0q := Lib.hid (Hs.out.after Hsq.out)
          have hs0q := Hs0q.out
          have Hes := Lib.hid hes
          have hbs : Hid (bsee n (j : Int) = es.map fun e => e.1) := by show _ = _; unfold bsee; rw [Int.toNat_natCast, getD_of hes]
          clear hes hrow
          go_wp2_with fail
          refine (neNear_any _ _ _ n j es wr (H.out.keep Hs0q.out.below) Hes.out (by omega)).mono ?_
          rintro e w5 ⟨u5, rfl, ho5, hb5⟩
          obtain ⟨A5, c5, rfl⟩ : ∃ A c, u5 = .slice A es.length c := by
            rcases ho5.cases with ⟨rfl, e1⟩ | ⟨gd, cd, rfl, hg1, hg2⟩
            · have := congrArg List.length e1; rw [List.length_map] at this; exact ⟨none, 0, by rw [this]; rfl⟩
            · exact ⟨_, cd, by rw [List.length_map]⟩
          have Ho5 := Lib.hid ho5
          have Hs5 := Lib.hid (Hsq.out.after hb5)
          clear ho5 hb5 hs0q
          go_wp2
          go_loopw [44] (fun i wx => ∃ t : Nat, t ≤ es.length ∧ i = .int .i64 t ∧ ((es.take t).map fun e => e.1).any (clashV n j) = false ∧ Since w5 wx) (fun i _ => es.length - (intOf i).toNat)
          case atStart => exact ⟨0, Nat.zero_le _, rfl, rfl, since_refl _⟩
          case round =>
            obtain ⟨t, ht, rfl, hnt, hst⟩ := hrel
            have Hnt := Lib.hid hnt
            have Hst := Lib.hid hst
            clear hnt hst
            by_cases hlt2 : t < es.length
            · obtain ⟨x, hx⟩ := getx es t hlt2
              have hxr := Hrow.out x (List.mem_of_getElem? hx)
              obtain ⟨k, hk⟩ := Int.eq_ofNat_of_zero_le hxr.1
              have hkl : k < n.ends.length := by omega
              have Hx := Lib.hid hx
              have hb : (es.map fun e => e.1)[t]? = some (k : Int) := by rw [List.getElem?_map, hx, ← hk]; rfl
              obtain ⟨gz, cz, hz1, hz2, hz3⟩ := own_row Ho5.out hb
              rw [List.length_map] at hz1
              simp only [Value.slice.injEq, true_and] at hz1
              obtain ⟨rfl, rfl⟩ := hz1
              have r0 := have_cell (bc Hst.out hz2)
              have HTq := Lib.hid (HT.out.since (Hs5.out.after Hst.out))
              obtain ⟨a1, ha1⟩ : ∃ a, twoAt n j = a := ⟨_, rfl⟩
              obtain ⟨a2, ha2⟩ : ∃ a, twoAt n k = a := ⟨_, rfl⟩
              have t1 := have_cell (HTq.out.cell (twoB_get hlj))
              have t2 := have_cell (HTq.out.cell (twoB_get hkl))
              have Hcl : Hid (clashV n j x.1 = (a1 == a2)) := by show _ = _; unfold clashV; rw [hk, ha1]; show (a1 == (twoB n).getD ((k : Int)).toNat 0) = _; rw [Int.toNat_natCast, two_getD hkl, ha2]
              rw [ha1] at t1
              rw [ha2] at t2
              have m2 : IntKind.i64.wrap ((t : Int) + 1) = (t : Int) + 1 := wr64 _ (by omega) (by omega)
              have r1 := r0 wr (since_refl _)
              have Hk := Lib.hid hk
              clear hx hxr hk hb hz2 ha1 ha2
              go_upto_region 14 with (fail)
              refine wp_region_flow 9 (Since wr) (by kernel_rfl) (by kernel_rfl) (by simp) (since_drew (since_refl _)) ?_
              simp only [List.take_succ_cons, List.take_zero, List.drop_succ_cons, List.drop_zero]
              refine flow_val (v := ?_) rfl ?_ ?_; rotate_left; (intro W hW; go_simp; with_reducible rfl)
              simp only [Act.put, List.setIfInBounds_toArray, List.set_cons_succ, List.set_cons_zero]
              refine flow_val (v := ?_) rfl ?_ ?_; rotate_left; (intro W hW; go_simp; with_reducible rfl)
              simp only [Act.put, List.setIfInBounds_toArray, List.set_cons_succ, List.set_cons_zero]
              refine flow_val (v := ?_) rfl ?_ ?_; rotate_left; (intro W hW; go_simp; with_reducible rfl)
              simp only [Act.put, List.setIfInBounds_toArray, List.set_cons_succ, List.set_cons_zero]
              refine flow_val (v := ?_) rfl ?_ ?_; rotate_left; (intro W hW; go_simp; with_reducible rfl)
              simp only [Act.put, List.setIfInBounds_toArray, List.set_cons_succ, List.set_cons_zero]
              refine flow_val (v := ?_) rfl ?_ ?_; rotate_left; (intro W hW; go_simp; with_reducible rfl)
              simp only [Act.put, List.setIfInBounds_toArray, List.set_cons_succ, List.set_cons_zero]
              refine flow_val (v := ?_) rfl ?_ ?_; rotate_left; (intro W hW; go_simp; with_reducible rfl)
              simp only [Act.put, List.setIfInBounds_toArray, List.set_cons_succ, List.set_cons_zero]
              refine flow_val (v := ?_) rfl ?_ ?_; rotate_left; (intro W hW; go_simp; with_reducible rfl)
              simp only [Act.put, List.setIfInBounds_toArray, List.set_cons_succ, List.set_cons_zero]
              refine flow_val (v := ?_) rfl ?_ ?_; rotate_left; (intro W hW; go_simp; with_reducible rfl)
              simp only [Act.put, List.setIfInBounds_toArray, List.set_cons_succ, List.set_cons_zero]
              refine flow_val (v := ?_) rfl ?_ ?_; rotate_left; (intro W hW; go_simp; with_reducible rfl)
              simp only [Act.put, List.setIfInBounds_toArray, List.set_cons_succ, List.set_cons_zero]
              intro W hW
              have HW := Lib.hid (Hst.out.after hW)
              clear hW t1 t2 r0 r1
              cases hg : (a1 == a2)
              · have Hno : Hid (((es.take (t + 1)).map fun e => e.1).any (clashV n j) = false) := by
                  show _ = _
                  rw [take_snoc Hx.out, List.map_append, List.any_append, Hnt.out]
                  simp only [List.map_cons, List.map_nil, List.any_cons, List.any_nil, Hcl.out, hg, Bool.or_false]
                go_wp2
                go_roundw
                case rel => exact ⟨t + 1, by omega, by first | rfl | go_num, Hno.out, HW.out⟩
                case measure => simp [intOf]; omega
              · have hbf := twoNo_hit Hn.out hlj (x := x.1) (by rw [hbs.out]; exact List.mem_map_of_mem (List.mem_of_getElem? Hx.out)) (by rw [Hcl.out]; exact hg)
                rw [Hrb.out] at hbf
                subst hbf
                go_wp2
                go_ret2
                exact ⟨.slice none 0 0, rfl, by simpa using own_nil _ _, Since.after Hb0.out (Hs.out.after (Hs5.out.after HW.out))⟩
            · obtain rfl : t = es.length := by omega
              have m2 : IntKind.i64.wrap ((j : Int) + 1) = (j : Int) + 1 := wr64 _ (by omega) (by omega)
              have Hno : Hid (twoNo n (j + 1)) := fun v hv => by
                rcases Nat.lt_or_ge v j with h1 | h1
                · exact Hnc.out v h1
                · rw [show v = j by omega, hbs.out]
                  have := Hnt.out
                  rwa [List.take_length] at this
              go_wp2
              go_roundw
              case rel => exact ⟨j + 1, by omega, by first | rfl | go_num, Hno.out, Hs5.out.after Hst.out⟩
              case measure => simp [intOf]; omega
        · obtain rfl : j = n.ends.length := by omega
          have hbt := twoNo_end Hn.out Hnc.out
          rw [Hrb.out] at hbt
          subst hbt
          go_wp2
          go_ret2
          refine ⟨.slice (some ⟨g, 0, none⟩) n.ends.length n.ends.length, rfl, ?_, Since.after Hb0.out (Hs.out.after Hsq.out)⟩
          exact (HT.out.since Hsq.out).mono Hb0.out.size
end Go.Proofs.Ytomnaabadohecaa
namespace Go.Proofs.Ytomnaabadohecaa
open Go.RowKit
/-! stubs, numbers of nodes, leaders: the reference -/
def stubRow (n : Net) (v k : Nat) : Bool := (List.range k).any fun i => decide (portF n v i = ((v : Int), (i : Int)))
def stubTo (n : Net) (k : Nat) : Bool := (List.range k).any fun v => stubRow n v (n.ends.getD v []).length
theorem any_hit {k v : Nat} {f : Nat → Bool} (hv : v < k) (h : f v = true) : (List.range k).any f = true := List.any_eq_true.2 ⟨v, List.mem_range.2 hv, h⟩
set_option maxRecDepth 100000 in
set_option maxHeartbeats 8000000 in
theorem meStub_any (ve vi vn : Value) (n : Net) (w : World) (h : NetIn w ve vi vn n) (hn : netOk n = true) :
    Calls Try.prog 53 #[.agg #[ve, vi, vn]] w fun e w' => e = .returned (.bool (stubP n)) ∧ Below w.heap.size w w' := by
  have hnl := netOk_len hn
  have hnl1 := hnl.1
  have hnl2 := hnl.2
  have Hn := Lib.hid hn
  obtain ⟨w0, hw0⟩ : ∃ w0, w0 = (w).alloc (.cells #[ve, vi, vn] 31) := ⟨_, rfl⟩
  have hb0 : Below w.heap.size w w0 := by rw [hw0]; exact ((Below.refl _ _).alloc (by simp) _)
  have H := Lib.hid (h.keep hb0)
  obtain ⟨h1, h2, h3⟩ := h.keep hb0
  obtain ⟨A, c, rfl, hlc, hm, hA⟩ := h1
  obtain ⟨A2, c2, rfl, _, hm2, _⟩ := h2
  obtain ⟨A3, c3, rfl, _, hm3, _⟩ := h3
  unfold maxLen at hm hm2 hm3
  have p00 : ∀ W, Since w0 W → W.cell? ⟨w.heap.size, 0, none⟩ = some (.slice A n.ends.length c) := have_cell (by rw [hw0]; simp)
  have p01 : ∀ W, Since w0 W → W.cell? ⟨w.heap.size, 1, none⟩ = some (.slice A2 n.ids.length c2) := have_cell (by rw [hw0]; simp)
  have p02 : ∀ W, Since w0 W → W.cell? ⟨w.heap.size, 2, none⟩ = some (.slice A3 n.inputs.length c3) := have_cell (by rw [hw0]; simp)
  have Hb0 := Lib.hid hb0
  have Hw0 := Lib.hid hw0
  have HA := Lib.hid hA
  clear hA h
  clear hb0 hw0
  have hs0 : Since w0 w0 := since_refl _
  obtain ⟨rb, hrb⟩ : ∃ rb, stubP n = rb := ⟨_, rfl⟩
  have Hrb : Hid (stubTo n n.ends.length = rb) := hrb
  rw [hrb]
  clear hn hnl hrb
  go_enter Try.func53, Try.ntmps53
  go_upto_region 1 with (fail)
  rw [← Hw0.out]
  go_wp2
  go_loopw [9] (fun i wr => ∃ k : Nat, k ≤ n.ends.length ∧ i = .int .i64 k ∧ stubTo n k = false ∧ Since w0 wr) (fun i _ => n.ends.length - (intOf i).toNat)
  case atStart => exact ⟨0, Nat.zero_le _, rfl, rfl, hs0⟩
  case round =>
    obtain ⟨k, hk, rfl, hno, hsr⟩ := hrel
    have Hno := Lib.hid hno
    have Hs := Lib.hid hsr
    clear hs0 hno
    by_cases hlt : k < n.ends.length
    · obtain ⟨es, hes⟩ := getx n.ends k hlt
      have hrow := netOk_row Hn.out hes
      have hes6 := hrow.1
      have hgd : n.ends.getD k [] = es := getD_of hes
      obtain ⟨b, offr, cr, ur, hA1, hkr, hc1, hro⟩ := row_at H.out.es hes
      cases hA1
      obtain ⟨A1, z1, rfl, hz1, hz2, hA1⟩ := hro
      unfold maxLen at hz2
      have HA1 := Lib.hid hA1
      have r1 := lift_cell (have_cell hc1) Hs.out
      have q5 := r1 wr (since_refl _)
      have Hgd := Lib.hid hgd
      have m4 : IntKind.i64.wrap ((k : Int) + 1) = (k : Int) + 1 := wr64 _ (by omega) (by omega)
      clear hes hrow hc1 hA1 hgd
      go_wp2
      go_loopw [18] (fun i wq => ∃ j : Nat, j ≤ es.length ∧ i = .int .i64 j ∧ stubRow n k j = false ∧ Since w0 wq) (fun i _ => es.length - (intOf i).toNat)
      case atStart => exact ⟨0, Nat.zero_le _, rfl, rfl, Hs.out⟩
      case round =>
        obtain ⟨j, hj, rfl, hno2, hsq⟩ := hrel
        have Hno2 := Lib.hid hno2
        have Hsq := Lib.hid hsq
        clear hno2
        by_cases hlj : j < es.length
        · obtain ⟨⟨x1, x2⟩, hx⟩ := getx es j hlj
          obtain ⟨b1, off1, rfl, hd1, hd2⟩ := HA1.out j _ hx
          have t1 := have_cell hd1 wr Hsq.out
          have t2 := have_cell hd2 wr Hsq.out
          have hpf : portF n k j = (x1, x2) := by unfold portF; rw [Hgd.out]; exact getD_of hx
          have m3 : IntKind.i64.wrap ((j : Int) + 1) = (j : Int) + 1 := wr64 _ (by omega) (by omega)
          obtain ⟨w8, hw8⟩ : ∃ w8, w8 = wr.alloc (.cells #[.int .i64 x1, .int .i64 x2] 56) := ⟨_, rfl⟩
          have hs8 : Since w0 w8 := by rw [hw8]; exact since_alloc _ Hsq.out
          have Hw8 := Lib.hid hw8
          have d0 : ∀ W, Since w8 W → W.cell? ⟨wr.heap.size, 0, none⟩ = some (.int .i64 x1) := have_cell (by rw [hw8]; simp)
          have d1 : ∀ W, Since w8 W → W.cell? ⟨wr.heap.size, 1, none⟩ = some (.int .i64 x2) := have_cell (by rw [hw8]; simp)
          have d00 := d0 w8 (since_refl _)
          have d11 := d1 w8 (since_refl _)
          have Hs8 := Lib.hid hs8
          have Hpf := Lib.hid hpf
          clear hx hd1 hd2 hw8 hpf d0 d1
          go_upto_region 7 with (fail)
          rw [← Hw8.out]
          clear t1 t2
          cases hg : eqE (x1, x2) ((k : Int), (j : Int))
          · have Hn2 : Hid (stubRow n k (j + 1) = false) := by
              show _ = _
              unfold stubRow
              rw [List.range_succ, List.any_append, show (List.range j).any (fun i => decide (portF n k i = ((k : Int), (i : Int)))) = false from Hno2.out]
              simp only [List.any_cons, List.any_nil, Bool.or_false, Bool.false_or, Hpf.out]
              exact hg
            go_wp2
            go_roundw
            case rel => exact ⟨j + 1, by omega, by first | rfl | go_num, Hn2.out, Hs8.out⟩
            case measure => simp [intOf]; omega
          · have hb : rb = true := by
              rw [← Hrb.out]
              refine any_hit hlt (any_hit (v := j) (by rw [Hgd.out]; exact hlj) ?_)
              rw [Hpf.out]
              exact hg
            subst hb
            go_wp2
            go_ret
            exact ⟨rfl, Since.after Hb0.out Hs8.out⟩
        · obtain rfl : j = es.length := by omega
          have Hn3 : Hid (stubTo n (k + 1) = false) := by
            show _ = _
            unfold stubTo
            rw [List.range_succ, List.any_append, show (List.range k).any (fun v => stubRow n v (n.ends.getD v []).length) = false from Hno.out]
            simp only [List.any_cons, List.any_nil, Bool.or_false, Bool.false_or]
            rw [Hgd.out]
            exact Hno2.out
          go_wp2
          go_roundw
          case rel => exact ⟨k + 1, by omega, by first | rfl | go_num, Hn3.out, Hsq.out⟩
          case measure => simp [intOf]; omega
    · obtain rfl : k = n.ends.length := by omega
      have hb : rb = false := by rw [← Hrb.out]; exact Hno.out
      subst hb
      go_wp2
      go_ret
      exact ⟨rfl, Since.after Hb0.out Hs.out⟩
/-- the places of a number in a row -/
def placesTo (xs : List Int) (x : Int) (k : Nat) : List Int := ((List.range k).filter fun i => decide (xs.getD i 0 = x)).map Int.ofNat
theorem placesTo_succ (xs : List Int) (x : Int) (k : Nat) : placesTo xs x (k + 1) = placesTo xs x k ++ (if xs.getD k 0 = x then [(k : Int)] else []) := by
  unfold placesTo
  rw [List.range_succ, List.filter_append, List.map_append]
  congr 1
  by_cases h : xs.getD k 0 = x
  · rw [if_pos h, List.filter_cons_of_pos (by simpa using h)]; rfl
  · rw [if_neg h, List.filter_cons_of_neg (by simpa using h)]; rfl
theorem placesTo_len (xs : List Int) (x : Int) (k : Nat) : (placesTo xs x k).length ≤ k := by
  unfold placesTo
  rw [List.length_map]
  exact Nat.le_trans (List.length_filter_le _ _) (by simp)
set_option maxRecDepth 100000 in
set_option maxHeartbeats 8000000 in
theorem deNodes_any (v : Value) (xs : List Int) (x : Int) (w : World) (h : IntS w v xs) (hl : xs.length ≤ 1000000) :
    Calls Try.prog 34 #[v, .int .i64 x] w fun e w' => ∃ u, e = .returned u ∧ Own w' w.heap.size u (placesTo xs x xs.length) ∧ Below w.heap.size w w' := by
  have HX := Lib.hid h
  obtain ⟨A, c, rfl, hlc, hm, hA⟩ := h
  unfold maxLen at hm
  have HA := Lib.hid hA
  clear hA
  go_enter Try.func34, Try.ntmps34
  go_wp2
  go_loopw [5, 10] (fun u i wr => ∃ k : Nat, k ≤ xs.length ∧ i = .int .i64 k ∧ Own wr w.heap.size u (placesTo xs x k) ∧ Since w wr) (fun _ i _ => xs.length - (intOf i).toNat)
  case atStart => exact ⟨0, Nat.zero_le _, rfl, own_nil _ _, since_refl _⟩
  case round =>
    obtain ⟨k, hk, rfl, ho, hsr⟩ := hrel
    have Ho := Lib.hid ho
    have Hs := Lib.hid hsr
    clear ho hsr
    by_cases hlt : k < xs.length
    · obtain ⟨y, hy⟩ := getx xs k hlt
      obtain ⟨b, off, rfl, hc⟩ := HA.out k y hy
      have d0 := Hs.out.cell hc
      have m3 : IntKind.i64.wrap ((k : Int) + 1) = (k : Int) + 1 := wr64 _ (by omega) (by omega)
      have hn1 := placesTo_succ xs x k
      rw [getD_of hy] at hn1
      have Hlen : Hid ((placesTo xs x k).length + 1 ≤ 17592186044416) := by show _ ≤ _; have := placesTo_len xs x k; omega
      clear hy hc
      by_cases he : y = x
      · subst he
        rw [if_pos rfl] at hn1
        have Hn1 := Lib.hid hn1
        clear hn1
        go_wp2_with (at_builtin; refine app_int_s rfl _ _ rfl rfl (Ho.out.since (since_alloc _ (since_refl _))) wr.heap.size k rfl (by simp [go_sem]) Hlen.out (since_alloc _ Hs.out) ?_; intro g cc w3 ho3 hs3)
        have Ho3 := Lib.hid ho3
        have Hs3 := Lib.hid hs3
        clear ho3 hs3
        go_wp2
        go_roundw
        case rel => exact ⟨k + 1, by omega, by first | rfl | go_num, by rw [Hn1.out]; have := Ho3.out; simpa using this, Hs3.out⟩
        case measure => simp [intOf]; omega
      · have hbe : (y == x) = false := by simpa using he
        rw [if_neg he, List.append_nil] at hn1
        have Hn1 := Lib.hid hn1
        clear hn1 he
        go_wp2
        go_roundw
        case rel => exact ⟨k + 1, by omega, by first | rfl | go_num, by rw [Hn1.out]; exact Ho.out, Hs.out⟩
        case measure => simp [intOf]; omega
    · obtain rfl : k = xs.length := by omega
      clear hk hlt
      go_wp2
      go_ret
      exact ⟨_, rfl, Ho.out, Hs.out⟩
theorem netOk_inputs {n : Net} (h : netOk n = true) : n.inputs.length = n.ends.length ∧ ∀ x ∈ n.inputs, 0 ≤ x ∧ x ≤ 9 := by
  unfold netOk inputsB at h
  simp only [Bool.and_eq_true, List.all_eq_true, beq_iff_eq] at h
  exact ⟨by omega, fun x hx => inB_iff.1 (h.1.2.2 x hx)⟩
def leadTo (n : Net) (k : Nat) : Prop := ∀ v, v < k → oneLead n v = true
theorem leadTo_end {n : Net} (h : leadTo n n.ends.length) : leadAll n = true := by
  unfold leadAll
  rw [List.all_eq_true]
  exact fun v hv => h v (List.mem_range.1 hv)
set_option maxRecDepth 100000 in
set_option maxHeartbeats 8000000 in
theorem plOnce_any (ve vi vn : Value) (n : Net) (w : World) (h : NetIn w ve vi vn n) (hn : netOk n = true) :
    Calls Try.prog 32 #[.agg #[ve, vi, vn]] w fun e w' => ∃ u, e = .returned (.tuple #[u, .bool (leadAll n)]) ∧ Own w' w.heap.size u (if leadAll n = true then leadL n n.ends.length else []) ∧ Below w.heap.size w w' := by
  have hnl := netOk_len hn
  have hnl1 := hnl.1
  have hnl2 := hnl.2
  have hin := netOk_inputs hn
  have Hil := Lib.hid hin.1
  have Hn := Lib.hid hn
  obtain ⟨w0, hw0⟩ : ∃ w0, w0 = (w).alloc (.cells #[ve, vi, vn] 31) := ⟨_, rfl⟩
  have hb0 : Below w.heap.size w w0 := by rw [hw0]; exact ((Below.refl _ _).alloc (by simp) _)
  have H := Lib.hid (h.keep hb0)
  obtain ⟨h1, h2, h3⟩ := h.keep hb0
  obtain ⟨A, c, rfl, hlc, hm, hA⟩ := h1
  obtain ⟨A2, c2, rfl, _, hm2, _⟩ := h2
  obtain ⟨A3, c3, rfl, _, hm3, _⟩ := h3
  unfold maxLen at hm hm2 hm3
  have p00 : ∀ W, Since w0 W → W.cell? ⟨w.heap.size, 0, none⟩ = some (.slice A n.ends.length c) := have_cell (by rw [hw0]; simp)
  have p01 : ∀ W, Since w0 W → W.cell? ⟨w.heap.size, 1, none⟩ = some (.slice A2 n.ids.length c2) := have_cell (by rw [hw0]; simp)
  have p02 : ∀ W, Since w0 W → W.cell? ⟨w.heap.size, 2, none⟩ = some (.slice A3 n.inputs.length c3) := have_cell (by rw [hw0]; simp)
  have Hb0 := Lib.hid hb0
  have Hw0 := Lib.hid hw0
  have HA := Lib.hid hA
  clear hA h
  clear hb0 hw0
  have hs0 : Since w0 w0 := since_refl _
  obtain ⟨rb, hrb⟩ : ∃ rb, leadAll n = rb := ⟨_, rfl⟩
  have Hrb := Lib.hid hrb
  rw [hrb]
  clear hn hnl hrb hin
  go_enter Try.func32, Try.ntmps32
  go_upto_region 1 with (fail)
  rw [← Hw0.out]
  go_wp2_with fail
  refine (meParts_any _ _ _ n w0 H.out Hn.out).mono ?_
  rintro e w2 ⟨u2, rfl, ho2, hb2⟩
  obtain ⟨gc, cc, rfl⟩ : ∃ gc cc, u2 = .slice (some ⟨gc, 0, none⟩) n.ends.length cc := by
    obtain ⟨x, hx⟩ := getx (compB n) 0 (by simp [compB]; omega)
    obtain ⟨g, c, h1, -⟩ := own_row ho2 hx
    exact ⟨g, c, by rw [h1]; simp [compB]⟩
  have Ho2 := Lib.hid ho2
  have Hs2 : Hid (Since w0 w2) := hb2
  clear ho2 hb2 hs0
  go_wp2
  go_loopw [5, 15] (fun u i wr => ∃ k : Nat, k ≤ n.ends.length ∧ i = .int .i64 k ∧ Own wr w2.heap.size u (leadL n k) ∧ leadTo n k ∧ Since w2 wr) (fun _ i _ => n.ends.length - (intOf i).toNat)
  case atStart => exact ⟨0, Nat.zero_le _, rfl, own_nil _ _, fun v hv => by omega, since_refl _⟩
  case round =>
    obtain ⟨k, hk, rfl, ho, hld, hsr⟩ := hrel
    have Ho := Lib.hid ho
    have Hld := Lib.hid hld
    have Hs := Lib.hid hsr
    clear ho hld hsr
    by_cases hlt : k < n.ends.length
    · have m3 : IntKind.i64.wrap ((k : Int) + 1) = (k : Int) + 1 := wr64 _ (by omega) (by omega)
      obtain ⟨p, hp⟩ : ∃ p, leastB n k = p := ⟨_, rfl⟩
      have c1 := have_cell ((Ho2.out.since Hs.out).cell (show (compB n)[k]? = some (p : Int) by rw [← hp]; unfold compB; rw [List.getElem?_map, List.getElem?_range hlt]; rfl))
      have c1' := c1 wr (since_refl _)
      have Hp := Lib.hid hp
      have Hlen : Hid ((leadL n k).length + 1 ≤ 17592186044416) := by show _ ≤ _; rw [leadL_len]; omega
      have Hn1 := Lib.hid (leadL_succ n k)
      clear hp
      go_wp2
      go_loopw [8, 21] (fun o i wq => ∃ j : Nat, j ≤ n.ends.length ∧ i = .int .i64 j ∧ o = .int .i64 (ownTo n p j) ∧ (onesTo n p j).length ≤ 1 ∧ Since wr wq) (fun _ i _ => n.ends.length - (intOf i).toNat)
      case atStart => exact ⟨0, Nat.zero_le _, rfl, rfl, by simp [onesTo], since_refl _⟩
      case round =>
        obtain ⟨j, hj, rfl, rfl, hone, hsq⟩ := hrel
        have Hone := Lib.hid hone
        have Hsq := Lib.hid hsq
        clear hone hsq
        have hrg := ownTo_range n p j
        by_cases hlj : j < n.ends.length
        · have m2 : IntKind.i64.wrap ((j : Int) + 1) = (j : Int) + 1 := wr64 _ (by omega) (by omega)
          obtain ⟨q, hq⟩ : ∃ q, leastB n j = q := ⟨_, rfl⟩
          have Hs2q := Lib.hid (Hs.out.after Hsq.out)
          have e1 := have_cell ((Ho2.out.since Hs2q.out).cell (show (compB n)[j]? = some (q : Int) by rw [← hq]; unfold compB; rw [List.getElem?_map, List.getElem?_range hlj]; rfl))
          have e1' := e1 wr (since_refl _)
          have Hs0q := Lib.hid (Hs2.out.after Hs2q.out)
          obtain ⟨x, hx⟩ := getx n.inputs j (by rw [Hil.out]; omega)
          obtain ⟨A9, c9, e9, -, -, hA9⟩ := H.out.ns
          cases e9
          obtain ⟨b9, off9, e8, hc9⟩ := hA9 j x hx
          subst e8
          have i1 := have_cell (bc Hs0q.out hc9)
          have hji : j < n.inputs.length := by rw [Hil.out]; exact hlj
          have q2 := lift_cell p02 Hs0q.out
          have hne : oneIn n p j = (decide (q = p) && decide (x = 1)) := by unfold oneIn; rw [hq, getD_of hx]
          have Hq := Lib.hid hq
          have Hne := Lib.hid hne
          obtain ⟨ow, how⟩ : ∃ ow, ownTo n p j = ow := ⟨_, rfl⟩
          have How := Lib.hid how
          rw [how] at hrg ⊢
          clear hq hx hA9 hc9 hne how
          go_upto_region 10 with (fail)
          refine wp_region_flow0 11 (Since wr) (since_refl _) ?_
          simp only [List.take_succ_cons, List.take_zero, List.drop_succ_cons, List.drop_zero]
          refine flow_val (v := ?_) rfl ?_ ?_; rotate_left; (intro W hW; go_simp; with_reducible rfl)
          simp only [Act.put, List.setIfInBounds_toArray, List.set_cons_succ, List.set_cons_zero]
          refine flow_val (v := ?_) rfl ?_ ?_; rotate_left; (intro W hW; go_simp; with_reducible rfl)
          simp only [Act.put, List.setIfInBounds_toArray, List.set_cons_succ, List.set_cons_zero]
          refine flow_val (v := ?_) rfl ?_ ?_; rotate_left; (intro W hW; go_simp; with_reducible rfl)
          simp only [Act.put, List.setIfInBounds_toArray, List.set_cons_succ, List.set_cons_zero]
          refine flow_val (v := ?_) rfl ?_ ?_; rotate_left; (intro W hW; go_simp; with_reducible rfl)
          simp only [Act.put, List.setIfInBounds_toArray, List.set_cons_succ, List.set_cons_zero]
          refine flow_gval (v := ?_) rfl rfl ?_ ?_; rotate_left; (intro hb; intro W hW; go_simp; with_reducible rfl)
          simp only [Act.put, List.setIfInBounds_toArray, List.set_cons_succ, List.set_cons_zero]
          refine flow_gval (v := ?_) rfl rfl ?_ ?_; rotate_left; (intro hb; intro W hW; go_simp; with_reducible rfl)
          simp only [Act.put, List.setIfInBounds_toArray, List.set_cons_succ, List.set_cons_zero]
          refine flow_gval (v := ?_) rfl rfl ?_ ?_; rotate_left; (intro hb; intro W hW; go_simp; with_reducible rfl)
          simp only [Act.put, List.setIfInBounds_toArray, List.set_cons_succ, List.set_cons_zero]
          refine flow_gval (v := ?_) rfl rfl ?_ ?_; rotate_left; (intro hb; intro W hW; go_simp; with_reducible rfl)
          simp only [Act.put, List.setIfInBounds_toArray, List.set_cons_succ, List.set_cons_zero]
          refine flow_gval (v := ?_) rfl rfl ?_ ?_; rotate_left; (intro hb; intro W hW; go_simp; with_reducible rfl)
          simp only [Act.put, List.setIfInBounds_toArray, List.set_cons_succ, List.set_cons_zero]
          refine flow_gval (v := ?_) rfl rfl ?_ ?_; rotate_left; (intro hb; intro W hW; go_simp; with_reducible rfl)
          simp only [Act.put, List.setIfInBounds_toArray, List.set_cons_succ, List.set_cons_zero]
          first | refine flow_or rfl rfl ?_ | (refine flow_val (v := ?_) rfl ?_ ?_; rotate_left; (intro W hW; go_simp; with_reducible rfl))
          simp only [Act.put, List.setIfInBounds_toArray, List.set_cons_succ, List.set_cons_zero]
          intro W hW
          have HW := Lib.hid (Hsq.out.after hW)
          clear hW c1 e1 i1 q2 c1' e1'
          cases hg : ((q : Int) != (p : Int) || x != 1)
          · have hin1 : oneIn n p j = true := by
              rw [Hne.out]
              simp only [Bool.or_eq_false_iff, bne_eq_false_iff_eq] at hg
              rw [decide_eq_true (by omega), decide_eq_true hg.2]; rfl
            by_cases h0 : 0 ≤ ow
            · have h01 : (0 ≤ ow) = True := by simp [h0]
              have hno := leadAll_no hlt (by rw [Hp.out]; exact ownTo_two hin1 (by rw [How.out]; omega) hlj)
              rw [Hrb.out] at hno
              subst hno
              clear hin1
              go_wp2
              go_ret2
              exact ⟨.slice none 0 0, rfl, by simpa using own_nil _ _, Since.after Hb0.out (Hs2.out.after (Hs.out.after HW.out))⟩
            · have h01 : (0 ≤ ow) = False := by simp [h0]
              have h02 : ow < 0 := by omega
              obtain ⟨f1, f2⟩ := ownTo_first hin1 (by rw [How.out]; omega)
              have F1 := Lib.hid f1
              have F2 := Lib.hid f2
              clear hin1 f1 f2 h0
              go_wp2
              go_roundw
              case rel => exact ⟨j + 1, by omega, by first | rfl | go_num, by rw [F2.out], by rw [F1.out]; exact Nat.le_refl _, HW.out⟩
              case measure => simp [intOf]; omega
          · have hin1 : oneIn n p j = false := by
              rw [Hne.out, Bool.eq_false_iff]
              intro hc
              simp only [Bool.and_eq_true, decide_eq_true_eq] at hc
              simp only [Bool.or_eq_true, bne_iff_ne, ne_eq] at hg
              omega
            obtain ⟨f1, f2⟩ := ownTo_skip hin1
            have F1 := Lib.hid f1
            have F2 := Lib.hid f2
            clear hin1 f1 f2
            go_wp2
            go_roundw
            case rel => exact ⟨j + 1, by omega, by first | rfl | go_num, by rw [F2.out, How.out], by rw [F1.out]; exact Hone.out, HW.out⟩
            case measure => simp [intOf]; omega
        · obtain rfl : j = n.ends.length := by omega
          have Hs2q := Lib.hid (Hs.out.after Hsq.out)
          obtain ⟨ow, how⟩ : ∃ ow, ownTo n p n.ends.length = ow := ⟨_, rfl⟩
          have Hneg := Lib.hid (ownTo_neg n p n.ends.length)
          rw [how] at hrg Hneg ⊢
          have How : Hid (leadOf n k = ow) := by show _ = _; unfold leadOf; rw [Hp.out]; exact how
          clear how hj hlj
          by_cases h0 : ow < 0
          · have h01 : (ow < 0) = True := by simp [h0]
            have hno := leadAll_no hlt (by rw [Hp.out]; unfold onesOf; rw [Hneg.out.1 h0]; omega)
            rw [Hrb.out] at hno
            subst hno
            go_wp2
            go_ret2
            exact ⟨.slice none 0 0, rfl, by simpa using own_nil _ _, Since.after Hb0.out (Hs2.out.after Hs2q.out)⟩
          · have h01 : (ow < 0) = False := by simp [h0]
            have h02 : 0 ≤ ow := by omega
            have Hl2 : Hid (leadTo n (k + 1)) := fun v hv => by
              rcases Nat.lt_or_ge v k with h1 | h1
              · exact Hld.out v h1
              · rw [show v = k by omega]
                unfold oneLead onesOf
                rw [Hp.out, beq_iff_eq]
                have h5 := Hone.out
                have h6 : (onesTo n p n.ends.length).length ≠ 0 := fun e => h0 (Hneg.out.2 e)
                omega
            have Hox := Lib.hid (Ho.out.since Hsq.out)
            clear h0
            go_wp2_with (at_builtin; refine app_int_s rfl _ _ rfl rfl (Hox.out.since (since_alloc _ (since_refl _))) wr.heap.size ow rfl (by simp [go_sem]) Hlen.out (since_alloc _ Hs2q.out) ?_; intro g cx w4 ho4 hs4)
            have Ho4 := Lib.hid ho4
            have Hs4 := Lib.hid hs4
            clear ho4 hs4
            go_wp2
            go_roundw
            case rel => exact ⟨k + 1, by omega, by first | rfl | go_num, by rw [Hn1.out, How.out]; have := Ho4.out; simpa using this, Hl2.out, Hs4.out⟩
            case measure => simp [intOf]; omega
    · obtain rfl : k = n.ends.length := by omega
      have hbt := leadTo_end Hld.out
      rw [Hrb.out] at hbt
      subst hbt
      go_wp2
      go_ret2
      exact ⟨_, rfl, Ho.out.mono (Nat.le_trans Hb0.out.size Hs2.out.below.size), Since.after Hb0.out (Hs2.out.after Hs.out)⟩
end Go.Proofs.Ytomnaabadohecaa
namespace Go.Proofs.Ytomnaabadohecaa
open Go.RowKit
/-! a slice of integers of the call's own that begins anywhere in its row (a queue) -/
def QA (W : World) (base g off cap : Nat) (xs : List Int) : Prop :=
  base ≤ g ∧ xs.length ≤ cap ∧ cap ≤ maxLen ∧ ∃ cur : Array Value, W.heap[g]? = some (.cells cur 3 (0, 0)) ∧ off + cap ≤ cur.size ∧ ∀ j x, xs[j]? = some x → cur[off + j]? = some (.int .i64 x)
theorem QA.cell {W : World} {base g off cap : Nat} {xs : List Int} (h : QA W base g off cap xs) {j : Nat} {x : Int} (hx : xs[j]? = some x) : W.cell? ⟨g, off + j, none⟩ = some (.int .i64 x) := by
  obtain ⟨-, -, -, cur, h1, -, h3⟩ := h
  simp [World.cell?, h1, h3 j x hx]
theorem QA.lt {W : World} {base g off cap : Nat} {xs : List Int} (h : QA W base g off cap xs) : g < W.heap.size := by
  obtain ⟨-, -, -, cur, h1, -⟩ := h
  exact (Array.getElem?_eq_some_iff.1 h1).1
theorem QA.stable {W W' : World} {base g off cap : Nat} {xs : List Int} (h : QA W base g off cap xs) (hs : W'.heap[g]? = W.heap[g]?) : QA W' base g off cap xs := by
  obtain ⟨h1, h2, h3, cur, h4, h5⟩ := h
  exact ⟨h1, h2, h3, cur, hs.trans h4, h5⟩
theorem QA.since {W W' : World} {base g off cap : Nat} {xs : List Int} (h : QA W base g off cap xs) (hs : Since W W') : QA W' base g off cap xs := h.stable (hs.below.block g h.lt)
theorem QA.other {W : World} {base g off cap : Nat} {xs : List Int} (h : QA W base g off cap xs) {b : Nat} (hb : g ≠ b) (k : Nat) (v : Value) : QA (W.setCell ⟨b, k, none⟩ v) base g off cap xs := h.stable (Below.heap_setCell W _ v g hb)
theorem QA.tail {W : World} {base g off cap : Nat} {x : Int} {xs : List Int} (h : QA W base g off cap (x :: xs)) : QA W base g (off + 1) (cap - 1) xs := by
  obtain ⟨h1, h2, h3, cur, h4, h5, h6⟩ := h
  rw [List.length_cons] at h2
  exact ⟨h1, by omega, by omega, cur, h4, by omega, fun j y hy => by
    have := h6 (j + 1) y (by simpa using hy)
    rwa [show off + (j + 1) = off + 1 + j by omega] at this⟩
theorem QA.nil {W : World} {base g off cap : Nat} {xs : List Int} (h : QA W base g off cap xs) : QA W base g off 0 [] := by
  obtain ⟨h1, h2, h3, cur, h4, h5, h6⟩ := h
  exact ⟨h1, Nat.le_refl _, Nat.zero_le _, cur, h4, by omega, fun j y hy => by simp at hy⟩
theorem QA.one (W : World) (base : Nat) (x : Int) (h : base ≤ W.heap.size) : QA (W.alloc (.cells #[.int .i64 x] 3)) base W.heap.size 0 1 [x] := by
  refine ⟨h, Nat.le_refl _, by simp [maxLen], #[.int .i64 x], ?_, by simp, fun j y hy => ?_⟩
  · show (W.heap.push _)[W.heap.size]? = _
    rw [Array.getElem?_push_size]
  · have := lt_of_get hy
    simp at this
    subst this
    simpa using hy
theorem app_q {w w0 : World} {ops : Array Oper} {rest : List Oper} {o : Oper} {a : Act} {Q : Exit → Act → World → Prop} (hgd : o.guard = none) (s x : Operand)
    (ho : o.op = .call { callee := .builtin .append, args := #[s, x], argTypes := #[23, 23] }) {g off cap : Nat} {xs : List Int} (hs : a.eval s = .slice (some ⟨g, off, none⟩) xs.length cap) (h : QA w w0.heap.size g off cap xs) (b : Nat) (y : Int)
    (hx : a.eval x = .slice (some ⟨b, 0, none⟩) 1 1) (hc : w.cell? ⟨b, 0, none⟩ = some (.int .i64 y)) (hl : xs.length + 1 ≤ 1000000) (hsn : Since w0 w)
    (k : ∀ g' off' cap' w', QA w' w0.heap.size g' off' cap' (xs ++ [y]) → Only [g] w w' → (g' = g ∨ w.heap.size ≤ g') → Since w0 w' → wpList Try.prog ops Q rest (a.put o.dst (.slice (some ⟨g', off', none⟩) (xs.length + 1) cap')) w') : wpList Try.prog ops Q (o :: rest) a w := by
  obtain ⟨i0, hi, hz0, hz1, hz2⟩ := info_parts int_info
  have hq := h
  obtain ⟨h1, h2, h3, cur, h4, h5, h6⟩ := h
  refine wpList_append_arg w hgd s x 23 ho 3 i0 (.int .i64 0) 1 8 Try.underlying23 hi hz0 hz1 hz2 rfl (by decide) g off xs.length cap (xs.map (Value.int .i64)) hs (by simp)
    (fun j u hj => by
      rw [List.getElem?_map] at hj
      cases hxj : xs[j]? with
      | none => rw [hxj] at hj; cases hj
      | some z => rw [hxj] at hj; cases hj; exact hq.cell hxj)
    ⟨b, 0, none⟩ 1 1 [.int .i64 y] hx rfl
    (fun j u hj => by
      have := lt_of_get hj
      simp at this
      subst this
      simp at hj
      subst hj
      rw [Go.Addr.add_lit]
      exact hc)
    (by simp [Value.oneCell'])
    (fun hr j hj => by
      simp at hj
      subst hj
      have hlt : off + xs.length * 1 + 0 < cur.size := by omega
      constructor
      · simp [World.cell?, h4]
        omega
      · simp [World.frozen?, h4])
    (by unfold maxLen; omega) (by omega) ?_ ?_
  · intro hr
    have hlt : off + xs.length < cur.size := by omega
    have e : w.setCells g (off + xs.length * 1) [.int .i64 y] = w.setCell ⟨g, off + xs.length, none⟩ (.int .i64 y) := by rw [Nat.mul_one]; rfl
    rw [e]
    refine k g off cap _ ⟨h1, by simp; omega, h3, cur.setIfInBounds (off + xs.length) (.int .i64 y), ?_, by simpa using h5, fun j z hj => ?_⟩ ((Only.refl _ _).setCell (.inl (by simp)) _) (.inl rfl) (Below.setCell hsn h1 _)
    · simp [World.setCell, Array.getElem?_modify, h4]
    · by_cases e2 : j = xs.length
      · subst e2
        simp at hj
        subst hj
        simp [hlt]
      · have hj2 : xs[j]? = some z := by
          have hjl := lt_of_get hj
          rw [List.length_append, List.length_singleton] at hjl
          rwa [List.getElem?_append_left (by omega)] at hj
        rw [Array.getElem?_setIfInBounds_ne (by omega)]
        exact h6 j z hj2
  · intro hr v' w' hown hgrow
    rcases hown.2 with ⟨rfl, hn⟩ | ⟨g', cap', cur', rfl, hb', hg', hn', hc', hsz', htk⟩
    · omega
    · refine k g' 0 cap' w' ⟨by have := hsn.below.size; omega, by simpa using hn', hc', cur', hg', by omega, fun j z hj => ?_⟩ ((Only.of_grown hgrow).mono (fun _ h => by simp at h)) (.inr hb') (Below.trans hsn ((Only.of_grown hgrow).below _ hsn.below.size (fun _ h => by simp at h)))
      have e3 : (xs.map (Value.int .i64) ++ [.int .i64 y])[j]? = some (.int .i64 z) := by
        have : (xs.map (Value.int .i64) ++ [.int .i64 y]) = (xs ++ [y]).map (Value.int .i64) := by simp
        rw [this, List.getElem?_map, hj]; rfl
      rw [← htk] at e3
      have hj3 := lt_of_get e3
      rw [List.getElem?_take] at e3
      split at e3
      · rw [Nat.zero_add]; simpa using e3
      · cases e3
end Go.Proofs.Ytomnaabadohecaa
