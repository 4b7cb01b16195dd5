import Derived.Test.YtbfoefkfcnaimaaOdo4
namespace Go.Proofs.Ytbfoefkfcnaimaa
open Go.RowKit
/-- the least number of rejecting nodes among the first k lists, and the first list with it -/
def leastR (n : Net) (s : Int) (B : Nat) : Nat → Nat × List Int
  | 0 => (n.ends.length + 1, [])
  | k + 1 => if (rejL n s (listB B n.ends.length k)).length < (leastR n s B k).1 then ((rejL n s (listB B n.ends.length k)).length, listB B n.ends.length k) else leastR n s B k
theorem leastR_bd {n : Net} {s : Int} {B : Nat} (k : Nat) : (leastR n s B k).1 ≤ n.ends.length + 1 ∧ (leastR n s B k).2.length ≤ n.ends.length := by
  induction k with
  | zero => simp [leastR]
  | succ k ih =>
    unfold leastR
    split
    · have := rejL_le n s (listB B n.ends.length k)
      rw [listB_len] at this
      exact ⟨by simp only; omega, by simp only; rw [listB_len]; exact Nat.le_refl _⟩
    · exact ih
def fnExactLeastRejecting_r2 (n : Net) (s most : Int) : Bool := fnExactCountAccepted_r1 n s most
def fnExactLeastRejecting_r0 (n : Net) (s most : Int) : Int := if fnExactCountAccepted_r1 n s most then ((leastR n s (most.toNat + 1) (listsI most n.ends.length).toNat).1 : Int) else 0
def fnExactLeastRejecting_d (n : Net) (s most : Int) : List Int := if fnExactCountAccepted_r1 n s most then (leastR n s (most.toNat + 1) (listsI most n.ends.length).toNat).2 else []
theorem fnExactLeastRejecting_dl (n : Net) (s most : Int) (hsz : szNet n ≤ 1048576) : (fnExactLeastRejecting_d n s most).length ≤ 4611686018427387904 := by
  unfold fnExactLeastRejecting_d
  split
  · have := (leastR_bd (n := n) (s := s) (B := most.toNat + 1) (listsI most n.ends.length).toNat).2
    unfold szNet szEE at hsz
    omega
  · simp
theorem tupiub {a b : Int} {u : Value} {c d : Bool} (h1 : a = b) (h2 : c = d) : Ending.returned (.tuple #[.int .i64 a, u, .bool c]) = .returned (.tuple #[.int .i64 b, u, .bool d]) := by rw [h1, h2]
set_option maxRecDepth 100000 in
set_option maxHeartbeats 8000000 in
theorem fnExactLeastRejecting_spec (ve vi vn : Value) (n : Net) (s most : Int) (w : World) (h : NetIn w ve vi vn n) (_ : -9223372036854775808 ≤ s ∧ s ≤ 9223372036854775807) (_ : -9223372036854775808 ≤ most ∧ most ≤ 9223372036854775807) (hsz : szNet n ≤ 1048576) :
    Calls Try.prog 28 #[.agg #[ve, vi, vn], .int .i64 s, .int .i64 most] w fun e w' => ∃ u, e = .returned (.tuple #[.int .i64 (fnExactLeastRejecting_r0 n s most), u, .bool (fnExactLeastRejecting_r2 n s most)]) ∧ Own w' w.heap.size u (fnExactLeastRejecting_d n s most) ∧ Below w.heap.size w w' := by
  obtain ⟨w0, hw0⟩ : ∃ w0, w0 = (w).alloc (.cells #[ve, vi, vn] 31) := ⟨_, rfl⟩
  have hb0 : Below w.heap.size w w0 := by rw [hw0]; exact ((Below.refl _ _).alloc (by simp) _)
  have H := Lib.hid (h.keep hb0)
  obtain ⟨h1, h2, h3⟩ := h.keep hb0
  obtain ⟨A, c, rfl, hlc, hm, hA⟩ := h1
  obtain ⟨A2, c2, rfl, _, hm2, _⟩ := h2
  obtain ⟨A3, c3, rfl, _, hm3, _⟩ := h3
  unfold maxLen at hm hm2 hm3
  have p00 : ∀ W, Since w0 W → W.cell? ⟨w.heap.size, 0, none⟩ = some (.slice A n.ends.length c) := have_cell (by rw [hw0]; simp)
  have p01 : ∀ W, Since w0 W → W.cell? ⟨w.heap.size, 1, none⟩ = some (.slice A2 n.ids.length c2) := have_cell (by rw [hw0]; simp)
  have p02 : ∀ W, Since w0 W → W.cell? ⟨w.heap.size, 2, none⟩ = some (.slice A3 n.inputs.length c3) := have_cell (by rw [hw0]; simp)
  have Hb0 := Lib.hid hb0
  have Hw0 := Lib.hid hw0
  have HA := Lib.hid hA
  clear hA h
  clear hb0 hw0
  go_enter Try.func28, Try.ntmps28
  go_upto_region 1 with (fail)
  rw [← Hw0.out]
  refine wp_region_flow0 11 (Since w0) (since_refl _) ?_
  simp only [List.take_succ_cons, List.take_zero, List.drop_succ_cons, List.drop_zero]
  refine flow_val (v := ?_) rfl ?_ ?_; rotate_left; (intro W hW; go_simp; with_reducible rfl)
  simp only [Act.put, List.setIfInBounds_toArray, List.set_cons_succ, List.set_cons_zero]
  refine flow_val (v := ?_) rfl ?_ ?_; rotate_left; (intro W hW; go_simp; with_reducible rfl)
  simp only [Act.put, List.setIfInBounds_toArray, List.set_cons_succ, List.set_cons_zero]
  refine flow_val (v := ?_) rfl ?_ ?_; rotate_left; (intro W hW; go_simp; with_reducible rfl)
  simp only [Act.put, List.setIfInBounds_toArray, List.set_cons_succ, List.set_cons_zero]
  refine flow_op ?_ rfl ?_ ?_; rotate_left; (intro W hW; unfold Gives; go_simp; (with_reducible refine (atAsked_any _ _ _ n s most W (H.out.keep hW.below)).mono ?_); rintro e W' ⟨rfl, hb3⟩; first | (refine ⟨?_, Since.trans hW hb3⟩; with_reducible rfl) | (subst hb3; refine ⟨?_, hW⟩; with_reducible rfl))
  simp only [Act.put, List.setIfInBounds_toArray, List.set_cons_succ, List.set_cons_zero]
  refine flow_val (v := ?_) rfl ?_ ?_; rotate_left; (intro W hW; go_simp; with_reducible rfl)
  simp only [Act.put, List.setIfInBounds_toArray, List.set_cons_succ, List.set_cons_zero]
  refine flow_val (v := ?_) rfl ?_ ?_; rotate_left; (intro W hW; go_simp; with_reducible rfl)
  simp only [Act.put, List.setIfInBounds_toArray, List.set_cons_succ, List.set_cons_zero]
  refine flow_gval (v := ?_) rfl rfl ?_ ?_; rotate_left; (intro hb W hW; go_simp; with_reducible rfl)
  simp only [Act.put, List.setIfInBounds_toArray, List.set_cons_succ, List.set_cons_zero]
  refine flow_gval (v := ?_) rfl rfl ?_ ?_; rotate_left; (intro hb W hW; go_simp; with_reducible rfl)
  simp only [Act.put, List.setIfInBounds_toArray, List.set_cons_succ, List.set_cons_zero]
  refine flow_gop (v := ?_) rfl rfl ?_ ?_; rotate_left; (intro hb W hW; unfold Gives; go_simp; (with_reducible refine (atLists_any _ _ _ n most W (H.out.keep hW.below) (ask_most (by simpa using hb)).2.1 (ask_most (s := s) (by simpa using hb)).2.2.1 (ask_most (s := s) (most := most) (by simpa using hb)).2.2.2).mono ?_); rintro e W' ⟨rfl, hb3⟩; first | (refine ⟨?_, Since.trans hW hb3⟩; with_reducible rfl) | (subst hb3; refine ⟨?_, hW⟩; with_reducible rfl))
  simp only [Act.put, List.setIfInBounds_toArray, List.set_cons_succ, List.set_cons_zero]
  refine flow_gval (v := ?_) rfl rfl ?_ ?_; rotate_left; (intro hb W hW; go_simp; with_reducible rfl)
  simp only [Act.put, List.setIfInBounds_toArray, List.set_cons_succ, List.set_cons_zero]
  first | refine flow_or rfl rfl ?_ | (refine flow_val (v := ?_) rfl ?_ ?_; rotate_left; (intro W hW; go_simp; with_reducible rfl))
  simp only [Act.put, List.setIfInBounds_toArray, List.set_cons_succ, List.set_cons_zero]
  intro W hW
  cases hg : (!askB n s most || decide (listsI most n.ends.length < 0))
  · have hr := cond1_any hg
    have Hr := Lib.hid (show true = fnExactLeastRejecting_r2 n s most from hr.symm)
    obtain ⟨a1, a2, mo, c, rfl, hmo, a3, hc1, hc2, a4⟩ := ask_at hr
    have A4 := Lib.hid a4
    have Hd0 := Lib.hid (show ((leastR n s (mo + 1) c).1 : Int) = fnExactLeastRejecting_r0 n s mo by unfold fnExactLeastRejecting_r0; rw [if_pos hr, a4]; simp)
    have Hd1 := Lib.hid (show (leastR n s (mo + 1) c).2 = fnExactLeastRejecting_d n s mo by unfold fnExactLeastRejecting_d; rw [if_pos hr, a4]; simp)
    have hn2 : n.ends.length ≤ 40 := (netOk_len a1).2
    have Hlo := Lib.hid (labOk_listB (s := s) a1 a2 hmo)
    have m0 : IntKind.i64.wrap ((n.ends.length : Int) + 1) = (n.ends.length : Int) + 1 := wr64 _ (by omega) (by omega)
    clear hg hr a1 a2 a3 a4
    go_wp2
    go_loopw [9, 10, 11] (fun l u i wr => ∃ k : Nat, k ≤ c ∧ i = .int .i64 k ∧ l = .int .i64 (leastR n s (mo + 1) k).1 ∧ Own wr w0.heap.size u (leastR n s (mo + 1) k).2 ∧ Since w0 wr) (fun _ _ i _ => c - (intOf i).toNat)
    case atStart => exact ⟨0, Nat.zero_le _, rfl, by simp [leastR], own_nil _ _, hW⟩
    case round =>
      obtain ⟨k, hk, rfl, rfl, ho, hs⟩ := hrel
      have Ho := Lib.hid ho
      clear hW ho m0
      go_wp2_with fail
      have hcal := atLists_any _ _ _ n mo _ (H.out.keep hs.below) (by omega) (by omega) hn2
      rw [A4.out] at hcal
      refine hcal.mono ?_
      clear hcal
      rintro e W2 ⟨rfl, hb2⟩
      have hs2 := Since.trans hs hb2
      have Ho2 := Lib.hid (Ho.out.keep hb2)
      clear hs hb2
      by_cases hlt : k < c
      · have m2 : IntKind.i64.wrap ((k : Int) + 1) = (k : Int) + 1 := wr64 _ (by omega) (by omega)
        go_wp2_with fail
        refine (atList_any _ _ _ n mo k W2 (H.out.keep hs2.below) hmo (by omega) hn2).mono ?_
        rintro e W3 ⟨u3, rfl, ho3, hb3⟩
        have hs3 := Since.trans hs2 hb3
        have Ho3 := Lib.hid (Ho2.out.keep hb3)
        have Hl3 := Lib.hid (ho3.mono (Since.below hs2).size)
        have HL3 := Lib.hid ho3.ints
        obtain ⟨Bu, du, rfl, _⟩ := id ho3.ints
        clear ho3 hb3 hs2
        go_wp2_with fail
        refine (plRejects_any _ _ _ _ n s (listB (mo + 1) n.ends.length k) _ (H.out.keep hs3.below) HL3.out (Hlo.out k)).mono ?_
        rintro e W4 ⟨u4, rfl, ho4, hb4⟩
        have hs4 := Since.trans hs3 hb4
        have Ho4 := Lib.hid (Ho3.out.keep hb4)
        have Hl4 := Lib.hid (Hl3.out.keep hb4)
        obtain ⟨Bv, dv, rfl, _⟩ := id ho4.ints
        clear ho4 hb4 hs3
        by_cases he : (rejL n s (listB (mo + 1) n.ends.length k)).length < (leastR n s (mo + 1) k).1
        · have Hn : Hid (leastR n s (mo + 1) (k + 1) = ((rejL n s (listB (mo + 1) n.ends.length k)).length, listB (mo + 1) n.ends.length k)) := by show _ = _; rw [leastR, if_pos he]
          go_wp2
          go_roundw
          case rel => exact ⟨k + 1, by omega, by go_num, by rw [Hn.out], by rw [Hn.out]; exact Hl4.out, hs4⟩
          case measure => simp [intOf]; omega
        · have Hn : Hid (leastR n s (mo + 1) (k + 1) = leastR n s (mo + 1) k) := by show _ = _; rw [leastR, if_neg he]
          go_wp2
          go_roundw
          case rel => exact ⟨k + 1, by omega, by go_num, by rw [Hn.out], by rw [Hn.out]; exact Ho4.out, hs4⟩
          case measure => simp [intOf]; omega
      · obtain rfl : k = c := by omega
        go_wp2
        first | go_ret3 | fail
        exact ⟨_, tupiub Hd0.out Hr.out, by rw [← Hd1.out]; exact Ho2.out.mono Hb0.out.size, Since.after Hb0.out hs2⟩
  · have hr := cond1_not hg
    have Hr := Lib.hid (show false = fnExactLeastRejecting_r2 n s most from hr.symm)
    have Hd0 := Lib.hid (show 0 = fnExactLeastRejecting_r0 n s most by unfold fnExactLeastRejecting_r0; rw [if_neg (by rw [hr]; simp)])
    have Hd1 := Lib.hid (show fnExactLeastRejecting_d n s most = [] by unfold fnExactLeastRejecting_d; rw [if_neg (by rw [hr]; simp)])
    have HW := Lib.hid hW
    clear hg hr hW
    go_wp2
    first | go_ret3 | fail
    exact ⟨_, tupiub Hd0.out Hr.out, by rw [Hd1.out]; exact own_nil _ _, Since.after Hb0.out HW.out⟩
/-- a cell that holds a slice of integers of the call's own -/
def U1 (W : World) (b : Nat) (u : Value) : Prop := W.heap[b]? = some (.cells #[u] 23)
theorem U1.cells {W : World} {b : Nat} {u : Value} (h : U1 W b u) : W.cell? ⟨b, 0, none⟩ = some u ∧ W.frozen? ⟨b, 0, none⟩ = false := by
  unfold U1 at h
  constructor
  · simp [World.cell?, h]
  · simp [World.frozen?, h]
theorem U1.lt {W : World} {b : Nat} {u : Value} (h : U1 W b u) : b < W.heap.size := (Array.getElem?_eq_some_iff.1 h).1
theorem U1.since {W W' : World} {b : Nat} {u : Value} (h : U1 W b u) (hs : Since W W') : U1 W' b u := (hs.below.block b h.lt).trans h
theorem U1.only {W W' : World} {b : Nat} {u : Value} {S : List Nat} (h : U1 W b u) (ho : Only S W W') (hb : b ∉ S) : U1 W' b u := (ho.block b h.lt hb).trans h
theorem U1.other {W : World} {b b' : Nat} {u : Value} (h : U1 W b u) (hb : b ≠ b') (i : Nat) (v : Value) : U1 (W.setCell ⟨b', i, none⟩ v) b u := (Below.heap_setCell W _ v b hb).trans h
theorem I1.other {W : World} {b b' : Nat} {x : Int} (h : I1 W b x) (hb : b ≠ b') (i : Nat) (v : Value) : I1 (W.setCell ⟨b', i, none⟩ v) b x := (Below.heap_setCell W _ v b hb).trans h
theorem U1.set {W : World} {b : Nat} {u : Value} (h : U1 W b u) (v : Value) : U1 (W.setCell ⟨b, 0, none⟩ v) b v := by
  unfold U1 at *
  simp [World.setCell, Array.getElem?_modify, h]
theorem U1.new (W : World) (u : Value) : U1 (W.alloc (.cells #[u] 23)) W.heap.size u := by
  unfold U1
  show (W.heap.push _)[W.heap.size]? = _
  rw [Array.getElem?_push_size]
/-- what the call with the list ls leaves -/
def LeastP (W W' : World) (bl bb : Nat) (q r : Nat) (u : Value) (ls : List Int) : Prop :=
  Only [bl, bb] W W' ∧ ((r < q ∧ I1 W' bl r ∧ ∃ u', U1 W' bb u' ∧ Own W' W.heap.size u' ls) ∨ (¬ r < q ∧ I1 W' bl q ∧ U1 W' bb u))
set_option maxHeartbeats 4000000 in
theorem leastC_any (ve vi vn vl : Value) (n : Net) (s : Int) (ls : List Int) (q : Nat) (u : Value) (bl bb bn bs : Nat) (w : World) (h : NetIn w ve vi vn n) (hl : IntS w vl ls) (hok : labOk n s ls = true) (hll : ls.length ≤ 17592186044416) (hc : I1 w bl q) (hb : U1 w bb u) (hne : bl ≠ bb) (A0 : Option Addr) (l0 k0 : Nat) (hu : u = .slice A0 l0 k0)
    (c0 : w.cell? ⟨bn, 0, none⟩ = some ve) (c1 : w.cell? ⟨bn, 1, none⟩ = some vi) (c2 : w.cell? ⟨bn, 2, none⟩ = some vn) (c3 : w.cell? ⟨bs, 0, none⟩ = some (.int .i64 s)) :
    Calls Try.prog 76 #[vl, .pointer (some ⟨bn, 0, none⟩), .pointer (some ⟨bs, 0, none⟩), .pointer (some ⟨bl, 0, none⟩), .pointer (some ⟨bb, 0, none⟩)] w fun e w' => (∃ x, e = .returned x) ∧ LeastP w w' bl bb q (rejL n s ls).length u ls := by
  subst hu
  have H := Lib.hid h
  have HL := Lib.hid hl
  have HC := Lib.hid hc
  have HB := Lib.hid hb
  have Hne := Lib.hid hne
  have hc1 := hc.cells.1
  have hr := rejecting_any _ _ _ _ n s ls w h hl hok
  have Hr := Lib.hid hr
  obtain ⟨AL, cL, rfl, hlL, hmL, _⟩ := hl
  obtain ⟨⟨A, c, rfl, hlc, hm, _⟩, ⟨A2, c2', rfl, _, hm2', _⟩, ⟨A3, c3', rfl, _, hm3', _⟩⟩ := h
  clear hok hc hb hne hr
  go_enter Try.func76, Try.ntmps76
  go_wp2_with fail
  refine Hr.out.mono ?_
  rintro e w1 ⟨u1, rfl, ho1, hb1⟩
  have d1 := Since.cell hb1 hc1
  obtain ⟨Bv, dv, rfl, _⟩ := id ho1.ints
  have Hb1 := Lib.hid hb1
  clear ho1 hb1 c0 c1 c2 c3 hc1 Hr
  by_cases he : (rejL n s ls).length < q
  · go_wp2_with fail
    refine (clone_any _ ls w1 (HL.out.keep Hb1.out) hll).mono ?_
    rintro e w2 ⟨u2, rfl, ho2, hb2⟩
    have hs2 : Since w w2 := Since.trans Hb1.out hb2
    obtain ⟨Bw, dw, rfl, _⟩ := id ho2.ints
    have Hs2 := Lib.hid hs2
    have Ho2 := Lib.hid ho2
    have Hz2 := Lib.hid (Below.size Hb1.out)
    have e1 := (HC.out.since hs2).cells.1
    have e2 := (HC.out.since hs2).cells.2
    have e3 := ((HB.out.since hs2).other Hne.out.symm 0 (.int .i64 ((rejL n s ls).length : Int))).cells.1
    have e4 := ((HB.out.since hs2).other Hne.out.symm 0 (.int .i64 ((rejL n s ls).length : Int))).cells.2
    clear ho2 hb2 hs2 d1
    go_wp2
    first | go_end0 | refine bodyPost_ret (results_none rfl _ _ _) rfl ?_
    refine ⟨⟨_, rfl⟩, ((Only.of_below Hs2.out.below).setCell (.inl (by simp)) _).setCell (.inl (by simp)) _, .inl ⟨he, ((HC.out.since Hs2.out).set _).other Hne.out 0 _, _, ((HB.out.since Hs2.out).other Hne.out.symm 0 _).set _, ?_⟩⟩
    have hlb : ∀ j, (Value.slice Bw ls.length dw).ownBlock = some j → w.heap.size ≤ j := fun j hj => Nat.le_trans Hz2.out (World.ownsRow.lt Ho2.out j (by simpa using hj)).1
    refine own_only (own_only (Ho2.out.mono Hz2.out) (S := [bl]) ((Only.refl _ _).setCell (.inl (by simp)) _) (fun k hk e => ?_)) (S := [bb]) ((Only.refl _ _).setCell (.inl (by simp)) _) (fun k hk e => ?_)
    · simp at hk; subst hk; have := hlb _ e; have := HC.out.lt; omega
    · simp at hk; subst hk; have := hlb _ e; have := HB.out.lt; omega
  · clear HL
    go_wp2
    first | go_end0 | refine bodyPost_ret (results_none rfl _ _ _) rfl ?_
    exact ⟨⟨_, rfl⟩, Only.of_below Hb1.out, .inr ⟨he, HC.out.since Hb1.out, HB.out.since Hb1.out⟩⟩
theorem leastC_enters : ∀ args w, (callFunc 76 args).run Try.prog w = .ok (.enter 76 args) w := enters_of Try.func76 (by kernel_rfl) rfl
set_option maxRecDepth 100000 in
set_option maxHeartbeats 8000000 in
theorem fnExactLeastRejecting_impl (ve vi vn : Value) (n : Net) (s most : Int) (w : World) (h : NetIn w ve vi vn n) (_ : -9223372036854775808 ≤ s ∧ s ≤ 9223372036854775807) (hmb : -9223372036854775808 ≤ most ∧ most ≤ 9223372036854775807) (hsz : szNet n ≤ 1048576) :
    Calls Try.prog 29 #[.agg #[ve, vi, vn], .int .i64 s, .int .i64 most] w fun e w' => ∃ u, e = .returned (.tuple #[.int .i64 (fnExactLeastRejecting_r0 n s most), u, .bool (fnExactLeastRejecting_r2 n s most)]) ∧ Own w' w.heap.size u (fnExactLeastRejecting_d n s most) ∧ Below w.heap.size w w' := by
  obtain ⟨w0, hw0⟩ : ∃ w0, w0 = ((w).alloc (.cells #[ve, vi, vn] 31)).alloc (.cells #[.int .i64 s] 3) := ⟨_, rfl⟩
  have hb0 : Below w.heap.size w w0 := by rw [hw0]; exact (((Below.refl _ _).alloc (by simp <;> omega) _).alloc (by simp <;> omega) _)
  have H := Lib.hid (h.keep hb0)
  obtain ⟨h1, h2, h3⟩ := h.keep hb0
  obtain ⟨A, c, rfl, hlc, hm, hA⟩ := h1
  obtain ⟨A2, c2, rfl, _, hm2, _⟩ := h2
  obtain ⟨A3, c3, rfl, _, hm3, _⟩ := h3
  unfold maxLen at hm hm2 hm3
  have p00 : ∀ W, Since w0 W → W.cell? ⟨w.heap.size, 0, none⟩ = some (.slice A n.ends.length c) := have_cell (by rw [hw0]; simp)
  have p01 : ∀ W, Since w0 W → W.cell? ⟨w.heap.size, 1, none⟩ = some (.slice A2 n.ids.length c2) := have_cell (by rw [hw0]; simp)
  have p02 : ∀ W, Since w0 W → W.cell? ⟨w.heap.size, 2, none⟩ = some (.slice A3 n.inputs.length c3) := have_cell (by rw [hw0]; simp)
  have p10 : ∀ W, Since w0 W → W.cell? ⟨w.heap.size + 1, 0, none⟩ = some (.int .i64 s) := have_cell (by rw [hw0]; simp)
  have Hb0 := Lib.hid hb0
  have Hw0 := Lib.hid hw0
  have HA := Lib.hid hA
  clear hA h
  clear hb0 hw0
  go_enter Try.func29, Try.ntmps29
  go_upto_region 1 with (fail)
  rw [← Hw0.out]
  refine wp_region_flow0 12 (Since w0) (since_refl _) ?_
  simp only [List.take_succ_cons, List.take_zero, List.drop_succ_cons, List.drop_zero]
  refine flow_val (v := ?_) rfl ?_ ?_; rotate_left; (intro W hW; go_simp; with_reducible rfl)
  simp only [Act.put, List.setIfInBounds_toArray, List.set_cons_succ, List.set_cons_zero]
  refine flow_op ?_ rfl ?_ ?_; rotate_left; (intro W hW; unfold Gives; go_simp; (with_reducible refine (isNetwork_any _ _ _ n W (H.out.keep hW.below) (szNet_ids hsz)).mono ?_); rintro e W' ⟨rfl, hb3⟩; first | (refine ⟨?_, Since.trans hW hb3⟩; with_reducible rfl) | (subst hb3; refine ⟨?_, hW⟩; with_reducible rfl))
  simp only [Act.put, List.setIfInBounds_toArray, List.set_cons_succ, List.set_cons_zero]
  refine flow_val (v := ?_) rfl ?_ ?_; rotate_left; (intro W hW; go_simp; with_reducible rfl)
  simp only [Act.put, List.setIfInBounds_toArray, List.set_cons_succ, List.set_cons_zero]
  refine flow_val (v := ?_) rfl ?_ ?_; rotate_left; (intro W hW; go_simp; with_reducible rfl)
  simp only [Act.put, List.setIfInBounds_toArray, List.set_cons_succ, List.set_cons_zero]
  refine flow_gval (v := ?_) rfl rfl ?_ ?_; rotate_left; (intro hb W hW; go_simp; with_reducible rfl)
  simp only [Act.put, List.setIfInBounds_toArray, List.set_cons_succ, List.set_cons_zero]
  refine flow_gop (v := ?_) rfl rfl ?_ ?_; rotate_left; (intro hb W hW; unfold Gives; go_simp; (with_reducible refine (isScheme_b _ W).mono ?_); rintro e W' ⟨rfl, hb3⟩; first | (refine ⟨?_, Since.trans hW hb3⟩; with_reducible rfl) | (subst hb3; refine ⟨?_, hW⟩; with_reducible rfl))
  simp only [Act.put, List.setIfInBounds_toArray, List.set_cons_succ, List.set_cons_zero]
  refine flow_gval (v := ?_) rfl rfl ?_ ?_; rotate_left; (intro hb W hW; go_simp; with_reducible rfl)
  simp only [Act.put, List.setIfInBounds_toArray, List.set_cons_succ, List.set_cons_zero]
  first | refine flow_or rfl rfl ?_ | (refine flow_val (v := ?_) rfl ?_ ?_; rotate_left; (intro W hW; go_simp; with_reducible rfl))
  simp only [Act.put, List.setIfInBounds_toArray, List.set_cons_succ, List.set_cons_zero]
  refine flow_val (v := ?_) rfl ?_ ?_; rotate_left; (intro W hW; go_simp; with_reducible rfl)
  simp only [Act.put, List.setIfInBounds_toArray, List.set_cons_succ, List.set_cons_zero]
  refine flow_gval (v := ?_) rfl rfl ?_ ?_; rotate_left; (intro hb W hW; go_simp; with_reducible rfl)
  simp only [Act.put, List.setIfInBounds_toArray, List.set_cons_succ, List.set_cons_zero]
  refine flow_gval (v := ?_) rfl rfl ?_ ?_; rotate_left; (intro hb W hW; go_simp; with_reducible rfl)
  simp only [Act.put, List.setIfInBounds_toArray, List.set_cons_succ, List.set_cons_zero]
  first | refine flow_or rfl rfl ?_ | (refine flow_val (v := ?_) rfl ?_ ?_; rotate_left; (intro W hW; go_simp; with_reducible rfl))
  simp only [Act.put, List.setIfInBounds_toArray, List.set_cons_succ, List.set_cons_zero]
  intro W hW
  cases hg : (!netOk n || !inB 1 5 s || decide (most < 0))
  · simp only [Bool.or_eq_false_iff, Bool.not_eq_false'] at hg
    have hn2 : 1 ≤ n.ends.length ∧ n.ends.length ≤ 40 := netOk_len hg.1.1
    have hm0 : 0 ≤ most := by have := hg.2; simp at this; exact this
    have e1 : fnExactCountAccepted_r1 n s most = (listsB most n.ends.length).isSome := by rw [ask_bool, hg.1.1, hg.1.2, hg.2]; simp
    have Hg := Lib.hid hg
    have E1 := Lib.hid e1
    obtain ⟨mo, rfl⟩ := Int.eq_ofNat_of_zero_le hm0
    have hm1 := hmb.2
    have m0 : IntKind.i64.wrap ((n.ends.length : Int) + 1) = (n.ends.length : Int) + 1 := wr64 _ (by omega) (by omega)
    obtain ⟨bl, hbl⟩ : ∃ b, b = W.heap.size := ⟨_, rfl⟩
    obtain ⟨bb, hbb⟩ : ∃ b, b = W.heap.size + 1 := ⟨_, rfl⟩
    obtain ⟨w2, hw2⟩ : ∃ w2, w2 = (W.alloc (.cells #[.int .i64 ((n.ends.length : Int) + 1)] 3)).alloc (.cells #[.slice none 0 0] 23) := ⟨_, rfl⟩
    have Hi : Hid (I1 w2 bl ((n.ends.length : Int) + 1)) := by rw [hw2, hbl]; exact (I1.new W _).since (since_alloc _ (since_refl _))
    have Hu : Hid (U1 w2 bb (.slice none 0 0)) := by rw [hw2, hbb]; have := U1.new (W.alloc (.cells #[.int .i64 ((n.ends.length : Int) + 1)] 3)) (.slice none 0 0); show U1 _ _ _; simpa using this
    have hbw : w0.heap.size ≤ bl := by rw [hbl]; exact (Since.below hW).size
    have hs2 : Since w0 w2 := by rw [hw2]; exact since_alloc _ (since_alloc _ hW)
    have Hlt := Lib.hid (And.intro Hi.out.lt Hu.out.lt)
    have Hs2 := Lib.hid hs2
    have Hbw := Lib.hid hbw
    have Hne : Hid (bl ≠ bb) := by show _ ≠ _; omega
    have hn2a := hn2.1
    have Hw2 := Lib.hid hw2
    have Hbl := Lib.hid hbl
    have Hbb := Lib.hid hbb
    clear hg e1 hm0 hmb hn2 hbw hw2 hbl hbb
    go_upto_region 5 with (fail)
    rw [← Hw2.out, ← Hbb.out, ← Hbl.out]
    clear hW
    go_wp2_with fail
    refine (eachLabeling_any _ _ _ n mo 76 #[.pointer (some ⟨w.heap.size, 0, none⟩), .pointer (some ⟨w.heap.size + 1, 0, none⟩), .pointer (some ⟨bl, 0, none⟩), .pointer (some ⟨bb, 0, none⟩)] w2 (fun g k X => Since w0 X ∧ I1 X bl ((leastR n s (mo + 1) k).1 : Int) ∧ ∃ u, U1 X bb u ∧ Own X w0.heap.size u (leastR n s (mo + 1) k).2 ∧ ∀ j, u.ownBlock = some j → j ≠ g ∧ j ≠ bl ∧ j ≠ bb) (H.out.keep Hs2.out.below) hn2a (netOk_len Hg.out.1.1).2 (by omega) hm1 leastC_enters
      (fun g X hg hb => ⟨Hs2.out.trans hb, by have := Hi.out.since hb; simpa [leastR] using this, _, Hu.out.since hb, own_nil _ _, fun j hj => by simp [Value.ownBlock] at hj⟩)
      (fun g k X X' hg hJ ho => ?_)
      (fun c hc g k X vl hk hg hJ ho hob => ?_)).mono ?_
    · obtain ⟨j1, j2, u, j3, j4, j5⟩ := hJ
      have hl := Hlt.out
      exact ⟨Only.since j1 ho (fun j hj => by simp at hj; subst hj; have := Hs2.out.below.size; omega), j2.only ho (by simp; omega), u, j3.only ho (by simp; omega), own_only j4 ho (fun j hj e => by simp at hj; subst hj; exact (j5 _ e).1 rfl), j5⟩
    · have hb := lists_bd (by omega) _ hc
      have hmo : mo < 20000 := by have := hb.2.2 (by omega); omega
      obtain ⟨hs, j2, u, j3, j4, j5⟩ := hJ
      rw [Int.toNat_natCast] at ho
      obtain ⟨Bu, du, hu, _⟩ := id j4.ints
      have hll := listB_len (mo + 1) n.ends.length k
      have hln := (netOk_len Hg.out.1.1).2
      refine (leastC_any _ _ _ _ n s (listB (mo + 1) n.ends.length k) _ u bl bb w.heap.size (w.heap.size + 1) X (H.out.keep hs.below) ho.ints (labOk_listB Hg.out.1.1 Hg.out.1.2 hmo k) (by omega) j2 j3 Hne.out _ _ _ hu (p00 X hs) (p01 X hs) (p02 X hs) (p10 X hs)).mono ?_
      rintro e X' ⟨⟨x, rfl⟩, hon, hor⟩
      have hl := Hlt.out
      have hbw := Hbw.out
      have hbb : w0.heap.size ≤ bb := by have := Hbb.out; have := Hbl.out; omega
      refine ⟨x, rfl, ⟨Only.since hs hon (fun j hj => by simp at hj; rcases hj with rfl | rfl <;> assumption), ?_⟩, [bl, bb], hon, fun j hj => by simp at hj; rcases hj with rfl | rfl; exact hl.1; exact hl.2⟩
      rcases hor with ⟨c1, c2, u', c3, c4⟩ | ⟨c1, c2, c3⟩
      · have e : leastR n s (mo + 1) (k + 1) = ((rejL n s (listB (mo + 1) n.ends.length k)).length, listB (mo + 1) n.ends.length k) := by rw [leastR, if_pos c1]
        rw [e]
        refine ⟨c2, u', c3, c4.mono (Since.below hs).size, fun j h => ?_⟩
        have a1 := (World.ownsRow.lt c4 j (by simpa using h)).1
        have a2 := (World.ownsRow.lt ho g (by simpa using hob)).2
        have a3 := j2.lt
        have a4 := j3.lt
        omega
      · have e : leastR n s (mo + 1) (k + 1) = leastR n s (mo + 1) k := by rw [leastR, if_neg c1]
        rw [e]
        refine ⟨c2, u, c3, own_only j4 hon (fun j hj h => ?_), j5⟩
        have := j5 j h
        simp at hj
        rcases hj with e | e
        · exact this.2.1 e
        · exact this.2.2 e
    · rintro e W3 ⟨rfl, hsome, hnone⟩
      cases hL : listsB (mo : Int) n.ends.length with
      | none =>
        have Hr := Lib.hid (show false = fnExactLeastRejecting_r2 n s mo by unfold fnExactLeastRejecting_r2; rw [E1.out, hL]; rfl)
        have Hr1 : fnExactCountAccepted_r1 n s mo = false := Hr.out.symm
        have Hd0 := Lib.hid (show 0 = fnExactLeastRejecting_r0 n s mo by unfold fnExactLeastRejecting_r0; rw [if_neg (by rw [Hr1]; simp)])
        have Hd1 := Lib.hid (show fnExactLeastRejecting_d n s mo = [] by unfold fnExactLeastRejecting_d; rw [if_neg (by rw [Hr1]; simp)])
        have Hb := Lib.hid (hnone hL)
        clear hsome hnone hL Hr1
        go_wp2
        first | go_ret3 | fail
        exact ⟨_, tupiub Hd0.out Hr.out, by rw [Hd1.out]; exact own_nil _ _, Since.after Hb0.out (Hs2.out.trans Hb.out)⟩
      | some c =>
        obtain ⟨g, -, hs3, hi3, u, hu3, ho3, -⟩ := hsome c hL
        have hb := lists_bd (by omega) _ hL
        obtain ⟨cn, rfl⟩ := Int.eq_ofNat_of_zero_le (show 0 ≤ c by omega)
        rw [Int.toNat_natCast] at hi3 ho3
        have Hr := Lib.hid (show true = fnExactLeastRejecting_r2 n s mo by unfold fnExactLeastRejecting_r2; rw [E1.out, hL]; rfl)
        have Hr1 : fnExactCountAccepted_r1 n s mo = true := Hr.out.symm
        have Hd0 := Lib.hid (show ((leastR n s (mo + 1) cn).1 : Int) = fnExactLeastRejecting_r0 n s mo by unfold fnExactLeastRejecting_r0; rw [if_pos Hr1]; simp [listsI, hL])
        have Hd1 := Lib.hid (show (leastR n s (mo + 1) cn).2 = fnExactLeastRejecting_d n s mo by unfold fnExactLeastRejecting_d; rw [if_pos Hr1]; simp [listsI, hL])
        have Hs3 := Lib.hid hs3
        have cz := have_cell hi3.cells.1
        have cu := have_cell hu3.cells.1
        have Ho3 := Lib.hid ho3
        clear hsome hnone hL hi3 hs3 hu3 ho3 Hr1
        go_upto_region 8 with (fail)
        refine wp_region_flow 5 (Since W3) (by kernel_rfl) (by kernel_rfl) (by simp) (since_drew (since_refl _)) ?_
        simp only [List.take_succ_cons, List.take_zero, List.drop_succ_cons, List.drop_zero]
        refine flow_val (v := ?_) rfl ?_ ?_; rotate_left; (intro W hW; go_simp; with_reducible rfl)
        simp only [Act.put, List.setIfInBounds_toArray, List.set_cons_succ, List.set_cons_zero]
        refine flow_val (v := ?_) rfl ?_ ?_; rotate_left; (intro W hW; go_simp; with_reducible rfl)
        simp only [Act.put, List.setIfInBounds_toArray, List.set_cons_succ, List.set_cons_zero]
        refine flow_val (v := ?_) rfl ?_ ?_; rotate_left; (intro W hW; go_simp; with_reducible rfl)
        simp only [Act.put, List.setIfInBounds_toArray, List.set_cons_succ, List.set_cons_zero]
        refine flow_val (v := ?_) rfl ?_ ?_; rotate_left; (intro W hW; go_simp; with_reducible rfl)
        simp only [Act.put, List.setIfInBounds_toArray, List.set_cons_succ, List.set_cons_zero]
        refine flow_val (v := ?_) rfl ?_ ?_; rotate_left; (intro W hW; go_simp; with_reducible rfl)
        simp only [Act.put, List.setIfInBounds_toArray, List.set_cons_succ, List.set_cons_zero]
        intro W4 hW4
        have HW4 := Lib.hid hW4
        clear cz cu hW4
        go_wp2
        first | go_ret3 | fail
        exact ⟨_, tupiub Hd0.out Hr.out, by rw [← Hd1.out]; exact (Ho3.out.since HW4.out).mono Hb0.out.size, Since.after Hb0.out (Hs3.out.after HW4.out)⟩
  · have hr : fnExactCountAccepted_r1 n s most = false := by
      rw [ask_bool]
      revert hg
      cases netOk n <;> cases inB 1 5 s <;> cases decide (most < 0) <;> simp
    have Hr := Lib.hid (show false = fnExactLeastRejecting_r2 n s most from hr.symm)
    have Hd0 := Lib.hid (show 0 = fnExactLeastRejecting_r0 n s most by unfold fnExactLeastRejecting_r0; rw [if_neg (by rw [hr]; simp)])
    have Hd1 := Lib.hid (show fnExactLeastRejecting_d n s most = [] by unfold fnExactLeastRejecting_d; rw [if_neg (by rw [hr]; simp)])
    have HW := Lib.hid hW
    clear hg hr hW
    go_wp2
    first | go_ret3 | fail
    exact ⟨_, tupiub Hd0.out Hr.out, by rw [Hd1.out]; exact own_nil _ _, Since.after Hb0.out HW.out⟩
end Go.Proofs.Ytbfoefkfcnaimaa
