/- Parts of the proof: walks of functions and plain laws. -/
import Derived.Test.YtomnaabadohecaaGreatP13
import Derived.Test.YtomnaabadohecaaGreatP1
import Derived.Test.YtomnaabadohecaaGreatP5
import Derived.Test.YtomnaabadohecaaGreatP11
import Derived.Test.YtomnaabadohecaaGreatP6
namespace Go.Proofs.YtomnaabadohecaaGreat
open Go.RowKit
/-! copies of labelings, and the empty one -/
set_option maxRecDepth 100000 in
set_option maxHeartbeats 4000000 in
theorem repeat0_any (b c : Nat) (x : Int) (w : World) (hc : w.cell? ⟨b, 0, none⟩ = some (.int .i64 x)) :
    Calls Tryz.prog 164 #[.slice (some ⟨b, 0, none⟩) 1 c, .int .i64 0] w fun e w' => ∃ u, e = .returned u ∧ Own w' w.heap.size u [] ∧ Below w.heap.size w w' := by
  have e1 : IntKind.u64.wrap (0 : Int) = 0 := IntWalk.u64_in _ (by omega)
  have hm := Tryz.bits_Mul 1 0 (by omega) (by omega) w
  rw [show (1 * 0 / 18446744073709551616 : Nat) = 0 by omega, show (1 * 0 % 18446744073709551616 : Nat) = 0 by omega] at hm
  have Hm := Lib.hid hm
  have e2 : IntKind.i64.wrap (0 : Int) = 0 := wr64 _ (by omega) (by omega)
  have m2 : ∀ W : World, (Instr.makeSlice 24 (.int .i64 0) (.int .i64 0)).run Tryz.prog W = .ok (.slice (some ⟨W.heap.size, 0, none⟩) 0 0) (W.alloc (.cells #[] 3)) := run_mk_ints 0 (by omega)
  have Hc := Lib.hid hc
  clear hm hc
  go_enter Tryz.func164, Tryz.ntmps164
  go_wp2_with fail
  refine Hm.out.mono ?_
  rintro e w1 ⟨rfl, rfl⟩
  have HG2 : Hid ((w1.alloc (.cells #[] 3)).heap[w1.heap.size]? = some (.cells (repRow x 0 0).toArray 3 (0, 0))) := by
    show (w1.heap.push _)[w1.heap.size]? = _
    rw [Array.getElem?_push_size]
    simp [repRow]
  go_wp2_with (refine wpList_copy_splice rfl _ _ 24 24 rfl 3 Tryz.underlying24 (by kernel_rfl) (some ⟨w1.heap.size, 0, none⟩) (some ⟨b, 0, none⟩) 0 0 1 c rfl rfl w1.heap.size 0 (repRow x 0 0) 3 HG2.out [] rfl (fun h => by simp at h) (by simp) (by simp) w1.heap.size w1 (below_alloc _ _) (Nat.le_refl _) ?_; intro w3 hg3 hb3)
  have HG3 : Hid (w3.heap[w1.heap.size]? = some (.cells (repRow x 0 0).toArray 3 (0, 0))) := by
    show _ = _
    have := hg3.out
    simpa [splice, repRow] using this
  have HB3 := Lib.hid hb3
  clear hg3 hb3
  go_wp2
  go_loopw [8] (fun nv wr => nv = .int .i64 0 ∧ wr = w3) (fun _ _ => 0)
  case atStart => exact ⟨rfl, rfl⟩
  case round =>
    obtain ⟨rfl, rfl⟩ := hrel
    go_wp2
    go_ret
    exact ⟨_, rfl, own_rep (N := 0) HG3.out (Nat.le_refl _) (by omega), HB3.out⟩
theorem repeat_any (b c : Nat) (x : Int) (N : Nat) (w : World) (hN2 : N ≤ 1000000) (hc : w.cell? ⟨b, 0, none⟩ = some (.int .i64 x)) :
    Calls Tryz.prog 164 #[.slice (some ⟨b, 0, none⟩) 1 c, .int .i64 N] w fun e w' => ∃ u, e = .returned u ∧ Own w' w.heap.size u (List.replicate N x) ∧ Below w.heap.size w w' := by
  rcases Nat.eq_zero_or_pos N with h | h
  · subst h; exact repeat0_any b c x w hc
  · exact repeat1_any b c x N w h hN2 hc
set_option maxHeartbeats 2000000 in
theorem copyLists_any (v : Value) (ess : List (List Int)) (w : World) (h : IntSS w v ess) (hl1 : ess.length ≤ 1048576) (hr : ∀ (v : Nat) (row : List Int), ess[v]? = some row → row.length ≤ 17592186044416) :
    Calls Tryz.prog 110 #[v] w fun e w' => ∃ u S, e = .returned u ∧ OwnII w' w.heap.size u ess S ∧ Below w.heap.size w w' := by
  have H := Lib.hid h
  obtain ⟨A, c, rfl, hlc, hm, -⟩ := h
  unfold maxLen at hm
  have Hr := Lib.hid hr
  clear hr
  go_enter Tryz.func110, Tryz.ntmps110
  go_wp2_with (at_make; refine mk_rowsI _ rfl _ _ rfl ess.length rfl rfl hl1 ?_; intro w1 ho1 hb1)
  go_loopw [10] (fun i wr => ∃ (k : Nat) (S : List Nat), k ≤ ess.length ∧ i = .int .i64 k ∧ OwnII wr w.heap.size (.slice (some ⟨w.heap.size, 0, none⟩) ess.length ess.length) (ess.take k ++ List.replicate (ess.length - k) []) S ∧ Below w.heap.size w wr) (fun i _ => ess.length - (intOf i).toNat)
  case atStart => exact ⟨0, _, Nat.zero_le _, rfl, by simpa using ho1, hb1⟩
  case round =>
    obtain ⟨k, S, hk, rfl, ho, hb⟩ := hrel
    clear ho1 hb1
    by_cases hlt : k < ess.length
    · obtain ⟨x, b, off, A1, z1, hx, rfl, hc1, hz1, hz2, hxs⟩ := rows_get H.out hlt
      have k1 := bc hb hc1
      have Hu := Lib.hid (hxs.keep hb)
      have Ho := Lib.hid ho
      have Hb := Lib.hid hb
      have Hx := Lib.hid hx
      clear hx hc1 ho hb hxs
      go_wp2_with fail
      refine (clone_any _ x _ Hu.out (Hr.out k x Hx.out)).mono ?_
      rintro e w2 ⟨v2, rfl, hr2, hb2⟩
      have hI2 : OwnI w2 wr.heap.size v2 x v2.ownBlock.toList := ⟨hr2, rfl⟩
      have ho2 := lawII.keep Ho.out hb2
      obtain ⟨y, hy⟩ := getx (ess.take k ++ List.replicate (ess.length - k) []) k (by simp; omega)
      obtain ⟨_, _, y1, f1, _⟩ := OwnRows.at_ ho2 hy
      have hS := lawII.range Ho.out
      obtain ⟨S3, ho3, _⟩ := OwnRows.store lawI ho2 k (lawI.mono hI2 Hb.out.size) (fun j hj hjS => by have h1 := (lawI.range hI2 j hj).1; have := (hS _ hjS).2; omega)
      rw [set_fill [] ess k x Hx.out] at ho3
      have Ho3 := Lib.hid ho3
      have Hb3 := Lib.hid ((Hb.out.trans (hb2.mono Hb.out.size)).setCell (p := ⟨w.heap.size, k, none⟩) (Nat.le_refl _) v2)
      obtain ⟨B2, d2, rfl, _⟩ := id hr2.ints
      clear ho2 hy ho3 hb2 hr2 hS hI2
      go_wp2
      go_roundw
      case rel => exact ⟨k + 1, S3, by omega, by simp, Ho3.out, Hb3.out⟩
      case measure => simp [intOf]; omega
    · have e1 : ess.take k ++ List.replicate (ess.length - k) ([] : List Int) = ess := by rw [List.take_of_length_le (by omega), show ess.length - k = 0 by omega, List.replicate_zero, List.append_nil]
      rw [e1] at ho
      have Ho := Lib.hid ho
      have Hb := Lib.hid hb
      clear ho hb e1
      go_wp2
      go_ret
      exact ⟨_, S, rfl, Ho.out, Hb.out⟩
theorem ownII_nil (w : World) (base : Nat) : OwnII w base (.slice none 0 0) [] [] := ⟨[], [], World.ownsRow_nil w base _ _, rfl, fun k u x T h => by simp at h, by simp [Value.ownBlock], by simp⟩
set_option maxHeartbeats 2000000 in
theorem soCopy_any (v : Value) (ess : List (List Int)) (w : World) (h : IntSS w v ess) (hl1 : ess.length ≤ 1048576) (hr : ∀ (v : Nat) (row : List Int), ess[v]? = some row → row.length ≤ 17592186044416) :
    Calls Tryz.prog 108 #[v] w fun e w' => ∃ u S, e = .returned u ∧ OwnII w' w.heap.size u ess S ∧ Below w.heap.size w w' := by
  have H := Lib.hid h
  obtain ⟨A, c, rfl, hlc, hm, -⟩ := h
  unfold maxLen at hm
  have Hr := Lib.hid hr
  clear hr
  go_enter Tryz.func108, Tryz.ntmps108
  go_wp2
  go_loopw [3, 8] (fun u i wr => ∃ (k : Nat) (S : List Nat), k ≤ ess.length ∧ i = .int .i64 k ∧ OwnII wr w.heap.size u (ess.take k) S ∧ Below w.heap.size w wr) (fun _ i _ => ess.length - (intOf i).toNat)
  case atStart => exact ⟨0, _, Nat.zero_le _, rfl, by simpa using ownII_nil w w.heap.size, Below.refl _ _⟩
  case round =>
    obtain ⟨k, S, hk, rfl, ho, hb⟩ := hrel
    have Ho := Lib.hid ho
    have Hb := Lib.hid hb
    by_cases hlt : k < ess.length
    · obtain ⟨x, b, off, A1, z1, hx, rfl, hc1, hz1, hz2, hxs⟩ := rows_get H.out hlt
      have k1 := bc hb hc1
      have Hu := Lib.hid (hxs.keep hb)
      have Hx := Lib.hid hx
      clear hx hc1 ho hb hxs
      go_wp2_with fail
      refine (l1Own_all _ x _ Hu.out (Hr.out k x Hx.out)).mono ?_
      rintro e w2 ⟨v2, rfl, hr2, hb2⟩
      have hS := lawII.range Ho.out
      have Hd : Hid (∀ j, v2.ownBlock = some j → j ∉ S) := fun j hj hjS => by have h1 := (World.ownsRow.lt hr2 j hj).1; have := (hS _ hjS).2; omega
      have HS2 := Lib.hid (Hb.out.trans (hb2.mono Hb.out.size))
      have Ho2 := Lib.hid (lawII.keep (lawII.keep Ho.out hb2) (below_alloc w2 (.cells #[v2] 24)))
      have Hr2 := Lib.hid ((hr2.mono Hb.out.size).keep (below_alloc w2 (.cells #[v2] 24)))
      have hlk : Hid ((ess.take k).length + 1 ≤ 4000000) := by show _ ≤ _; rw [List.length_take]; omega
      obtain ⟨B2, d2, rfl, _⟩ := id hr2.ints
      clear hr2 hb2 hS k1
      go_wp2_with (at_builtin; refine app_rowII rfl _ _ rfl rfl Ho2.out w2.heap.size rfl (by simp [go_sem]) Hr2.out Hd.out hlk.out (Nat.le_trans HS2.out.size (by simp)) ?_; intro g cc w3 S3 ho3 hb3)
      rw [← take_snoc Hx.out, List.length_take, Nat.min_eq_left (Nat.le_of_lt hlt)] at ho3
      go_roundw
      case rel => exact ⟨k + 1, S3, by omega, by go_num, ho3, HS2.out.trans ((below_alloc w2 _).mono HS2.out.size |>.trans hb3)⟩
      case measure => simp [intOf]; omega
    · obtain rfl : k = ess.length := by omega
      have HO : Hid (OwnII wr w.heap.size u3 ess S) := by have := Ho.out; rwa [List.take_length] at this
      clear ho hb
      go_wp2
      go_ret
      exact ⟨_, S, rfl, HO.out, Hb.out⟩
def freeL (n : Net) : List (List Int) := n.ends.map fun es => List.replicate es.length (-1)
theorem freeL_len (n : Net) : (freeL n).length = n.ends.length := by simp [freeL]
theorem freeL_get {n : Net} {k : Nat} {es : List (Int × Int)} (h : n.ends[k]? = some es) : (freeL n)[k]? = some (List.replicate es.length (-1)) := by simp [freeL, h]
set_option maxHeartbeats 4000000 in
theorem unlabeled_any (ve vi vn : Value) (n : Net) (w : World) (h : NetIn w ve vi vn n) (hl1 : n.ends.length ≤ 1048576) (hr : ∀ (v : Nat) (es : List (Int × Int)), n.ends[v]? = some es → es.length ≤ 1000000) :
    Calls Tryz.prog 101 #[.agg #[ve, vi, vn]] w fun e w' => ∃ u S, e = .returned u ∧ OwnII w' w.heap.size u (freeL n) S ∧ Below w.heap.size w w' := by
  obtain ⟨w0, hw0⟩ : ∃ w0, w0 = (w).alloc (.cells #[ve, vi, vn] 43) := ⟨_, rfl⟩
  have hb0 : Below w.heap.size w w0 := by rw [hw0]; exact ((Below.refl _ _).alloc (by simp) _)
  have H := Lib.hid (h.keep hb0)
  obtain ⟨h1, h2, h3⟩ := h.keep hb0
  obtain ⟨A, c, rfl, hlc, hm, hA⟩ := h1
  obtain ⟨A2, c2, rfl, _, hm2, _⟩ := h2
  obtain ⟨A3, c3, rfl, _, hm3, _⟩ := h3
  unfold maxLen at hm hm2 hm3
  have p00 : ∀ W, Since w0 W → W.cell? ⟨w.heap.size, 0, none⟩ = some (.slice A n.ends.length c) := have_cell (by rw [hw0]; simp)
  have p01 : ∀ W, Since w0 W → W.cell? ⟨w.heap.size, 1, none⟩ = some (.slice A2 n.ids.length c2) := have_cell (by rw [hw0]; simp)
  have p02 : ∀ W, Since w0 W → W.cell? ⟨w.heap.size, 2, none⟩ = some (.slice A3 n.inputs.length c3) := have_cell (by rw [hw0]; simp)
  have Hb0 := Lib.hid hb0
  have Hw0 := Lib.hid hw0
  have HA := Lib.hid hA
  clear hA h
  clear hb0 hw0
  have Hr := Lib.hid hr
  clear hr
  obtain ⟨F, hF⟩ : ∃ F, F = freeL n := ⟨_, rfl⟩
  have hFl : F.length = n.ends.length := by rw [hF]; exact freeL_len n
  rw [← hF]
  have HF := Lib.hid hF
  clear hF
  go_enter Tryz.func101, Tryz.ntmps101
  go_upto_region 1 with (fail)
  rw [← Hw0.out]
  have hs0 : Since w0 w0 := since_refl _
  go_upto_region 3 with (at_make; refine mk_rowsI _ rfl _ _ rfl n.ends.length rfl rfl hl1 ?_; intro w1 ho1 hb1; have hs1 : Since w0 w1 := hb1)
  obtain ⟨g, hg⟩ : ∃ g, g = w0.heap.size := ⟨_, rfl⟩
  rw [← hg] at ho1 ⊢
  have hs1 : Since w0 w1 := hb1
  have Hg := Lib.hid hg
  clear hg hb1
  go_wp2
  go_loopw [13] (fun i wr => ∃ (k : Nat) (S : List Nat), k ≤ n.ends.length ∧ i = .int .i64 k ∧ OwnII wr w0.heap.size (.slice (some ⟨g, 0, none⟩) n.ends.length n.ends.length) (F.take k ++ List.replicate (F.length - k) []) S ∧ Since w0 wr) (fun i _ => n.ends.length - (intOf i).toNat)
  case atStart => exact ⟨0, _, Nat.zero_le _, rfl, by rw [hFl]; have := ho1; simpa [Hg.out] using this, hs1⟩
  case round =>
    obtain ⟨k, S, hk, rfl, ho, hb⟩ := hrel
    have Ho := Lib.hid ho
    have Hb := Lib.hid hb
    clear ho1 hs1 hs0 ho hb
    by_cases hlt : k < n.ends.length
    · obtain ⟨es, hes⟩ := getx n.ends k hlt
      obtain ⟨b, off, c', u, hA, hk', hc1, hrow⟩ := row_at H.out.es hes
      cases hA
      obtain ⟨A1, z1, rfl, hz1, hz2, -⟩ := hrow
      have hel := Hr.out k es hes
      have k1 := bc Hb.out.below hc1
      have Hx : Hid (F[k]? = some (List.replicate es.length (-1))) := by show _ = _; rw [HF.out]; exact freeL_get hes
      clear hc1 hes
      go_wp2_with fail
      refine (repeat_any wr.heap.size 1 (-1) es.length _ hel (by simp)).mono ?_
      rintro e w2 ⟨v2, rfl, hr2, hb2⟩
      have hI2 : OwnI w2 (wr.alloc (.cells #[.int .i64 (-1)] 3)).heap.size v2 (List.replicate es.length (-1)) v2.ownBlock.toList := ⟨hr2, rfl⟩
      have hsa : wr.heap.size ≤ (wr.alloc (.cells #[.int .i64 (-1)] 3)).heap.size := by simp
      have hw0 : w0.heap.size ≤ wr.heap.size := Hb.out.below.size
      have ho2 := lawII.keep (lawII.keep Ho.out (below_alloc wr (.cells #[.int .i64 (-1)] 3))) hb2
      obtain ⟨y, hy⟩ := getx (F.take k ++ List.replicate (F.length - k) []) k (by simp; omega)
      obtain ⟨_, _, y1, f1, _⟩ := OwnRows.at_ ho2 hy
      have hS := lawII.range Ho.out
      obtain ⟨S3, ho3, _⟩ := OwnRows.store lawI ho2 k (lawI.mono hI2 (by omega)) (fun j hj hjS => by have h1 := (lawI.range hI2 j hj).1; have := (hS _ hjS).2; omega)
      rw [set_fill [] F k _ Hx.out] at ho3
      have Ho3 := Lib.hid ho3
      have Hb3 : Hid (Since w0 (w2.setCell ⟨g, k, none⟩ v2)) := Below.setCell (Since.below ((since_alloc _ Hb.out).trans hb2)) (by show w0.heap.size ≤ g; rw [Hg.out]; exact Nat.le_refl _) _
      obtain ⟨B2, d2, hv2, _⟩ := id hr2.ints
      rw [List.length_replicate] at hv2
      subst hv2
      clear ho2 hy ho3 hb2 hr2 hS hI2 hsa hw0
      go_wp2
      go_roundw
      case rel => exact ⟨k + 1, S3, by omega, by go_num, Ho3.out, Hb3.out⟩
      case measure => simp [intOf]; omega
    · have e1 : F.take k ++ List.replicate (F.length - k) ([] : List Int) = F := by rw [List.take_of_length_le (by omega), show F.length - k = 0 by omega, List.replicate_zero, List.append_nil]
      have HO : Hid (OwnII wr w0.heap.size (.slice (some ⟨g, 0, none⟩) n.ends.length n.ends.length) F S) := by have := Ho.out; rwa [e1] at this
      clear e1
      go_wp2
      go_ret
      exact ⟨_, S, rfl, lawII.mono HO.out Hb0.out.size, Since.after Hb0.out Hb.out⟩
set_option maxHeartbeats 4000000 in
theorem soEmpty_any (ve vi vn : Value) (n : Net) (w : World) (h : NetIn w ve vi vn n) (hl1 : n.ends.length ≤ 1048576) (hr : ∀ (v : Nat) (es : List (Int × Int)), n.ends[v]? = some es → es.length ≤ 1048576) :
    Calls Tryz.prog 96 #[.agg #[ve, vi, vn]] w fun e w' => ∃ u S, e = .returned u ∧ OwnII w' w.heap.size u (freeL n) S ∧ Below w.heap.size w w' := by
  obtain ⟨w0, hw0⟩ : ∃ w0, w0 = (w).alloc (.cells #[ve, vi, vn] 43) := ⟨_, rfl⟩
  have hb0 : Below w.heap.size w w0 := by rw [hw0]; exact ((Below.refl _ _).alloc (by simp) _)
  have H := Lib.hid (h.keep hb0)
  obtain ⟨h1, h2, h3⟩ := h.keep hb0
  obtain ⟨A, c, rfl, hlc, hm, hA⟩ := h1
  obtain ⟨A2, c2, rfl, _, hm2, _⟩ := h2
  obtain ⟨A3, c3, rfl, _, hm3, _⟩ := h3
  unfold maxLen at hm hm2 hm3
  have p00 : ∀ W, Since w0 W → W.cell? ⟨w.heap.size, 0, none⟩ = some (.slice A n.ends.length c) := have_cell (by rw [hw0]; simp)
  have p01 : ∀ W, Since w0 W → W.cell? ⟨w.heap.size, 1, none⟩ = some (.slice A2 n.ids.length c2) := have_cell (by rw [hw0]; simp)
  have p02 : ∀ W, Since w0 W → W.cell? ⟨w.heap.size, 2, none⟩ = some (.slice A3 n.inputs.length c3) := have_cell (by rw [hw0]; simp)
  have Hb0 := Lib.hid hb0
  have Hw0 := Lib.hid hw0
  have HA := Lib.hid hA
  clear hA h
  clear hb0 hw0
  have Hr := Lib.hid hr
  clear hr
  obtain ⟨F, hF⟩ : ∃ F, F = freeL n := ⟨_, rfl⟩
  have hFl : F.length = n.ends.length := by rw [hF]; exact freeL_len n
  rw [← hF]
  have HF := Lib.hid hF
  clear hF
  go_enter Tryz.func96, Tryz.ntmps96
  go_upto_region 1 with (fail)
  rw [← Hw0.out]
  have hs0 : Since w0 w0 := since_refl _
  go_wp2
  go_loopw [3, 11] (fun u i wr => ∃ (k : Nat) (S : List Nat), k ≤ n.ends.length ∧ i = .int .i64 k ∧ OwnII wr w0.heap.size u (F.take k) S ∧ Since w0 wr) (fun _ i _ => n.ends.length - (intOf i).toNat)
  case atStart => exact ⟨0, _, Nat.zero_le _, rfl, by simpa using ownII_nil w0 w0.heap.size, hs0⟩
  case round =>
    obtain ⟨k, S, hk, rfl, ho, hb⟩ := hrel
    have Ho := Lib.hid ho
    have Hb := Lib.hid hb
    clear hs0 ho hb
    by_cases hlt : k < n.ends.length
    · obtain ⟨es, hes⟩ := getx n.ends k hlt
      obtain ⟨b, off, c', u, hA, hk', hc1, hrow⟩ := row_at H.out.es hes
      cases hA
      obtain ⟨A1, z1, rfl, hz1, hz2, -⟩ := hrow
      have hel := Hr.out k es hes
      have k1 := bc Hb.out.below hc1
      have Hx : Hid (F[k]? = some (List.replicate es.length (-1))) := by show _ = _; rw [HF.out]; exact freeL_get hes
      clear hc1 hes
      obtain ⟨wo, rfl⟩ : ∃ wo, wo = wr := ⟨_, rfl⟩
      go_upto_region 6 with (at_make; refine mk_ints _ rfl _ _ rfl _ _ es.length rfl rfl rfl rfl (by omega) ?_; intro w1 ho1 hb1 hz1')
      obtain ⟨g, hg⟩ : ∃ g, g = wo.heap.size := ⟨_, rfl⟩
      rw [← hg] at ho1 hz1' ⊢
      have Hg := Lib.hid hg
      have Ho1 := Lib.hid ho1
      have Hb1 := Lib.hid hb1
      clear hg ho1 hb1 hz1'
      go_wp2
      go_loopw [20] (fun i wq => ∃ j : Nat, j ≤ es.length ∧ i = .int .i64 j ∧ Own wq wo.heap.size (.slice (some ⟨g, 0, none⟩) es.length es.length) (List.replicate j (-1) ++ List.replicate (es.length - j) 0) ∧ Since wo wq) (fun i _ => es.length - (intOf i).toNat)
      case atStart => exact ⟨0, Nat.zero_le _, rfl, by have := Ho1.out; simpa [Hg.out] using this, Hb1.out⟩
      case round =>
        obtain ⟨j, hj, rfl, ho, hs⟩ := hrel
        have Hoj := Lib.hid ho
        have Hs := Lib.hid hs
        clear ho hs
        by_cases hjl : j < es.length
        · obtain ⟨y, hy⟩ := getx (List.replicate j (-1 : Int) ++ List.replicate (es.length - j) 0) j (by simp; omega)
          have cz := Hoj.out.cell hy
          have fz := Hoj.out.free j
          clear hy
          go_wp2
          go_roundw
          case rel =>
            refine ⟨j + 1, by omega, by go_num, ?_, Below.setCell Hs.out (by show wo.heap.size ≤ g; rw [Hg.out]; exact Nat.le_refl _) _⟩
            have := Hoj.out.set (k := j) (-1)
            have e : (List.replicate j (-1 : Int) ++ List.replicate (es.length - j) 0).set j (-1) = List.replicate (j + 1) (-1) ++ List.replicate (es.length - (j + 1)) 0 := by
              rw [List.set_append_right _ _ (by simp), List.length_replicate, Nat.sub_self, show es.length - j = (es.length - (j + 1)) + 1 by omega, List.replicate_succ, List.set_cons_zero, List.replicate_succ', List.append_assoc]
              rfl
            rwa [e] at this
          case measure => simp [intOf]; omega
        · obtain rfl : j = es.length := by omega
          have Hr2 : Hid (Own wr wo.heap.size (.slice (some ⟨g, 0, none⟩) es.length es.length) (List.replicate es.length (-1))) := by
            have := Hoj.out
            rwa [Nat.sub_self, List.replicate_zero, List.append_nil] at this
          have hS := lawII.range Ho.out
          have Hd : Hid (∀ j, (Value.slice (some ⟨g, 0, none⟩) es.length es.length).ownBlock = some j → j ∉ S) := fun j hj hjS => by have h1 := (World.ownsRow.lt Hr2.out j hj).1; have := (hS _ hjS).2; omega
          have HS2 := Lib.hid (Hb.out.trans Hs.out)
          have Ho2 := Lib.hid (lawII.keep (lawII.keep Ho.out Hs.out.below) (below_alloc wr (.cells #[.slice (some ⟨g, 0, none⟩) es.length es.length] 24)))
          have Hr3 := Lib.hid ((Hr2.out.mono Hb.out.below.size).keep (below_alloc wr (.cells #[.slice (some ⟨g, 0, none⟩) es.length es.length] 24)))
          have hlk : Hid ((F.take k).length + 1 ≤ 4000000) := by show _ ≤ _; rw [List.length_take]; omega
          clear hS k1
          go_wp2_with (at_builtin; refine app_rowII rfl _ _ rfl rfl Ho2.out wr.heap.size rfl (by simp [go_sem]) Hr3.out Hd.out hlk.out (Nat.le_trans HS2.out.below.size (by simp)) ?_; intro g9 cc w3 S3 ho3 hb3)
          rw [← take_snoc Hx.out, List.length_take, Nat.min_eq_left (by omega)] at ho3
          go_roundw
          case rel => exact ⟨k + 1, S3, by omega, by go_num, ho3, Below.trans (Below.trans HS2.out ((below_alloc wr _).mono HS2.out.below.size)) hb3⟩
          case measure => simp [intOf]; omega
    · obtain rfl : k = n.ends.length := by omega
      have HO : Hid (OwnII wr w0.heap.size u3 F S) := by have := Ho.out; rw [List.take_of_length_le (by omega)] at this; exact this
      go_wp2
      go_ret
      exact ⟨_, S, rfl, lawII.mono HO.out Hb0.out.size, Since.after Hb0.out Hb.out⟩
end Go.Proofs.YtomnaabadohecaaGreat
namespace Go.Proofs.YtomnaabadohecaaGreat
open Go.RowKit
/-! the solver's memory -/
theorem BoxA.put {w : World} {b : Nat} {vs : Array Value} (h : BoxA w b vs) (i : Nat) (u : Value) : BoxA (w.setCell ⟨b, i, none⟩ u) b (vs.setIfInBounds i u) := by
  obtain ⟨r, h⟩ := h
  refine ⟨r, ?_⟩
  simp [World.setCell, Array.getElem?_modify, h]
theorem BoxA.grown {w w' : World} {b : Nat} {vs : Array Value} {row : Option Nat} (h : BoxA w b vs) (hg : w.grownBy w' row) (hb : some b ≠ row) : BoxA w' b vs := by
  have hlt := h.lt
  obtain ⟨r, h'⟩ := h
  exact ⟨r, (hg.block b hlt hb).trans h'⟩
/-- append of one end, at any base -/
theorem app_endG {w : World} {ops : Array Oper} {rest : List Oper} {o : Oper} {a : Act} {Q : Exit → Act → World → Prop} (hgd : o.guard = none) (s x : Operand)
    (ho : o.op = .call { callee := .builtin .append, args := #[s, x], argTypes := #[112, 112] }) {base : Nat} {v : Value} {xs : List (Int × Int)} (hs : a.eval s = v) (h : ∃ T, OwnE w base v xs T) (b : Nat) (y : Int × Int)
    (hx : a.eval x = .slice (some ⟨b, 0, none⟩) 1 1) (hc : w.cell? ⟨b, 0, none⟩ = some (.int .i64 y.1)) (hc1 : w.cell? ⟨b, 1, none⟩ = some (.int .i64 y.2)) (hl : xs.length + 1 ≤ 1000000) (hsn : base ≤ w.heap.size)
    (k : ∀ g cap w', (∃ T, OwnE w' base (.slice (some ⟨g, 0, none⟩) (xs.length + 1) cap) (xs ++ [y]) T) → w.grownBy w' v.ownBlock → (∀ j, v.ownBlock = some j → base ≤ j) → base ≤ g → wpList Tryz.prog ops Q rest (a.put o.dst (.slice (some ⟨g, 0, none⟩) (xs.length + 1) cap)) w') : wpList Tryz.prog ops Q (o :: rest) a w := by
  obtain ⟨i0, hi, hz0, hz1, hz2⟩ := info_parts end_info
  obtain ⟨T, h⟩ := h
  refine wpList_append_lies w hgd s x 112 ho base 114 i0 _ 2 16 Tryz.underlying112 hi hz0 hz1 hz2 rfl (by decide) v xs.length (xs.flatMap encE) hs h.1 ⟨b, 0, none⟩ 1 1 [.int .i64 y.1, .int .i64 y.2] hx rfl
    (by intro j u hj; match j, hj with | 0, hj => (simp at hj; subst hj; simpa [Addr.add] using hc) | 1, hj => (simp at hj; subst hj; simpa [Addr.add] using hc1) | j + 2, hj => simp at hj) (by simp [Value.oneCell']) (by omega) (by unfold maxLen; omega) (by omega) hsn w.heap.size rfl ?_
  intro g cap w' q1 q2 q3 q4
  have hq : w'.ownsRow base 114 2 (.slice (some ⟨g, 0, none⟩) (xs.length + 1) cap) (xs ++ [y]).length ((xs ++ [y]).flatMap encE) := by simpa [encE] using q1
  exact k g cap w' ⟨_, hq, rfl⟩ q2 (fun j hj => (World.ownsRow.lt h.1 j hj).1) (World.ownsRow.lt hq g rfl).1
theorem copyListsB_any (v : Value) (ess : List (List Int)) (w : World) (B : Nat) (hB : B ≤ w.heap.size) (h : IntSS w v ess) (hl1 : ess.length ≤ 1048576) (hr : ∀ (v : Nat) (row : List Int), ess[v]? = some row → row.length ≤ 17592186044416) :
    Calls Tryz.prog 110 #[v] w fun e w' => ∃ u S, e = .returned u ∧ OwnII w' B u ess S ∧ Below w.heap.size w w' := (copyLists_any v ess w h hl1 hr).mono fun _ _ ⟨u, S, h1, h2, h3⟩ => ⟨u, S, h1, lawII.mono h2 hB, h3⟩
theorem soCopyB_any (v : Value) (ess : List (List Int)) (w : World) (B : Nat) (hB : B ≤ w.heap.size) (h : IntSS w v ess) (hl1 : ess.length ≤ 1048576) (hr : ∀ (v : Nat) (row : List Int), ess[v]? = some row → row.length ≤ 17592186044416) :
    Calls Tryz.prog 108 #[v] w fun e w' => ∃ u S, e = .returned u ∧ OwnII w' B u ess S ∧ Below w.heap.size w w' := (soCopy_any v ess w h hl1 hr).mono fun _ _ ⟨u, S, h1, h2, h3⟩ => ⟨u, S, h1, lawII.mono h2 hB, h3⟩
def arrI (p : Prob) (pa pb va vb vc ul uf : Value) (st : Int) : Array Value := #[.int .i64 p.labels, .int .i64 p.degree, pa, pb, va, vb, vc, ul, uf, .int .i64 st]
def arrS (p : Prob) (pa pb va vb vc ul uf : Value) (i st most : Int) (fr : Bool) : Array Value := #[.int .i64 p.labels, .int .i64 p.degree, pa, pb, va, vb, vc, ul, uf, .int .i64 i, .int .i64 st, .int .i64 most, .bool fr]
theorem freeRU_le (v : Nat) (row : List Int) (k : Nat) : (freeRU v row k).length ≤ k := by
  unfold freeRU
  rw [List.length_map]
  exact Nat.le_trans (List.length_filter_le _ _) (by simp)
theorem freeU_le {l : List (List Int)} (h : ∀ (v : Nat) (row : List Int), l[v]? = some row → row.length ≤ 6) (k : Nat) : (freeU l k).length ≤ 6 * k := by
  induction k with
  | zero => simp [freeU]
  | succ k ih =>
    rw [freeU_succ, List.length_append]
    have : (freeR k (l.getD k [])).length ≤ 6 := by
      have h1 := freeRU_le k (l.getD k []) (l.getD k []).length
      have h2 : (l.getD k []).length ≤ 6 := by
        cases hk : l[k]? with
        | none => simp [List.getD_eq_getElem?_getD, hk]
        | some row => rw [getD_of hk]; exact h k row hk
      exact Nat.le_trans h1 h2
    omega
def SolM (w : World) (sb : Nat) (vs : Array Value) (l : List (List Int)) (ports : List (Int × Int)) (ul uf : Value) (SL : List Nat) (B : Nat) : Prop :=
  BoxA w sb vs ∧ OwnII w B ul l SL ∧ (∀ k ∈ SL, k < sb) ∧ ∃ T, OwnE w (sb + 1) uf ports T
theorem SolM.push {wr w3 : World} {sb : Nat} {vs : Array Value} {l : List (List Int)} {ports : List (Int × Int)} {ul uf : Value} {SL : List Nat} {B : Nat} {o : Obj} (h : SolM wr sb vs l ports ul uf SL B) {y : Int × Int} {g cap : Nat}
    (ho3 : ∃ T, OwnE w3 (sb + 1) (.slice (some ⟨g, 0, none⟩) (ports.length + 1) cap) (ports ++ [y]) T) (hg3 : (wr.alloc o).grownBy w3 uf.ownBlock) (hv3 : ∀ j, uf.ownBlock = some j → sb + 1 ≤ j) (hs : sb + 1 ≤ wr.heap.size) :
    BoxA w3 sb vs ∧ SolM (w3.setCell ⟨sb, 8, none⟩ (.slice (some ⟨g, 0, none⟩) (ports.length + 1) cap)) sb (vs.setIfInBounds 8 (.slice (some ⟨g, 0, none⟩) (ports.length + 1) cap)) l (ports ++ [y]) ul (.slice (some ⟨g, 0, none⟩) (ports.length + 1) cap) SL B ∧
      (∀ w0 : World, Since w0 wr → w0.heap.size ≤ sb → Since w0 (w3.setCell ⟨sb, 8, none⟩ (.slice (some ⟨g, 0, none⟩) (ports.length + 1) cap))) ∧ sb + 1 ≤ (w3.setCell ⟨sb, 8, none⟩ (.slice (some ⟨g, 0, none⟩) (ports.length + 1) cap)).heap.size := by
  obtain ⟨h1, h2, h3, h4⟩ := h
  have hb : BoxA w3 sb vs := (h1.alloc o).grown hg3 (fun e => by have := hv3 sb e.symm; omega)
  have hsz : wr.heap.size ≤ w3.heap.size := by have := hg3.size; simp at this; omega
  refine ⟨hb, ⟨hb.put 8 _, ?_, h3, ?_⟩, ?_, by rw [sizeSet]; omega⟩
  · refine lawII.stable h2 fun k hk => ?_
    have hk1 := h3 k hk
    rw [Below.heap_setCell _ _ _ k (by show k ≠ sb; omega), hg3.block k (by simp; omega) (fun e => by have := hv3 k e.symm; omega)]
    exact Below.heap_alloc wr o k (by omega)
  · obtain ⟨T, ho3⟩ := ho3
    exact ⟨T, RowLaw.put lawE ho3 (by show sb < sb + 1; omega) _⟩
  · intro w0 hw0 hle
    refine Below.setCell (Below.grown (Since.below (since_alloc o hw0)) hg3 ?_ (fun j hj => by have := hv3 j hj; omega)) (by show w0.heap.size ≤ sb; exact hle) _
    have := (Since.below hw0).size
    simp; omega
set_option maxRecDepth 100000 in
set_option maxHeartbeats 8000000 in
theorem newSolver_any (pa pb ve vi vn vl : Value) (p : Prob) (n : Net) (l : List (List Int))  (w : World) (hp : PrIn w pa pb p) (h : NetIn w ve vi vn n) (hl : IntSS w vl l) (hl40 : l.length ≤ 40) (hr6 : ∀ (v : Nat) (row : List Int), l[v]? = some row → row.length ≤ 6) :
    Calls Tryz.prog 100 #[.agg #[.int .i64 p.labels, .int .i64 p.degree, pa, pb], .agg #[ve, vi, vn], vl] w fun e w' => ∃ sb ul uf SL, e = .returned (.pointer (some ⟨sb, 0, none⟩)) ∧ SolM w' sb (arrI p pa pb ve vi vn ul uf 0) l (freeP l) ul uf SL w.heap.size ∧ w.heap.size ≤ sb ∧ Below w.heap.size w w' := by
  obtain ⟨w0, hw0⟩ : ∃ w0, w0 = ((w).alloc (.cells #[.int .i64 p.labels, .int .i64 p.degree, pa, pb] 74)).alloc (.cells #[ve, vi, vn] 43) := ⟨_, rfl⟩
  have hb0 : Below w.heap.size w w0 := by rw [hw0]; exact (((Below.refl _ _).alloc (by simp <;> omega) _).alloc (by simp <;> omega) _)
  have H := Lib.hid (h.keep hb0)
  obtain ⟨h1, h2, h3⟩ := h.keep hb0
  obtain ⟨A, c, rfl, hlc, hm, hA⟩ := h1
  obtain ⟨A2, c2, rfl, _, hm2, _⟩ := h2
  obtain ⟨A3, c3, rfl, _, hm3, _⟩ := h3
  unfold maxLen at hm hm2 hm3
  have hkP := hp.keep hb0
  have HP := Lib.hid hkP
  obtain ⟨P0, pz0, rfl, hlP0, hmP0, hPe0⟩ := id hkP.1
  unfold maxLen at hmP0
  have HPe0 := Lib.hid hPe0
  clear hPe0
  obtain ⟨P1, pz1, rfl, hlP1, hmP1, hPe1⟩ := id hkP.2
  unfold maxLen at hmP1
  have HPe1 := Lib.hid hPe1
  clear hPe1
  clear hkP hp
  have p00 : ∀ W, Since w0 W → W.cell? ⟨w.heap.size, 0, none⟩ = some (.int .i64 p.labels) := have_cell (by rw [hw0]; simp)
  have p01 : ∀ W, Since w0 W → W.cell? ⟨w.heap.size, 1, none⟩ = some (.int .i64 p.degree) := have_cell (by rw [hw0]; simp)
  have p02 : ∀ W, Since w0 W → W.cell? ⟨w.heap.size, 2, none⟩ = some (.slice P0 p.nodes.length pz0) := have_cell (by rw [hw0]; simp)
  have p03 : ∀ W, Since w0 W → W.cell? ⟨w.heap.size, 3, none⟩ = some (.slice P1 p.edges.length pz1) := have_cell (by rw [hw0]; simp)
  have p10 : ∀ W, Since w0 W → W.cell? ⟨w.heap.size + 1, 0, none⟩ = some (.slice A n.ends.length c) := have_cell (by rw [hw0]; simp)
  have p11 : ∀ W, Since w0 W → W.cell? ⟨w.heap.size + 1, 1, none⟩ = some (.slice A2 n.ids.length c2) := have_cell (by rw [hw0]; simp)
  have p12 : ∀ W, Since w0 W → W.cell? ⟨w.heap.size + 1, 2, none⟩ = some (.slice A3 n.inputs.length c3) := have_cell (by rw [hw0]; simp)
  have Hb0 := Lib.hid hb0
  have Hw0 := Lib.hid hw0
  have HA := Lib.hid hA
  clear hA h
  clear hb0 hw0
  have HL := Lib.hid (hl.keep Hb0.out)
  obtain ⟨AL, cL, rfl, hlL, hmL, -⟩ := hl
  unfold maxLen at hmL
  have Hr6 := Lib.hid hr6
  have Hfl : Hid (∀ (k j : Nat) (row : List Int), k ≤ l.length → j ≤ 6 → (freeU l k ++ freeRU k row j).length + 1 ≤ 1000000) := by
    intro k j row hk hj
    have h1 := freeU_le hr6 k
    have h2 := freeRU_le k row j
    rw [List.length_append]
    omega
  clear hr6
  go_enter Tryz.func100, Tryz.ntmps100
  go_upto_region 1 with (fail)
  rw [← Hw0.out]
  refine wp_region_chain (w0 := w0) 6 [false, false, false, true, true, true] (by kernel_rfl) (by kernel_rfl) (since_refl _) ?_
  simp only [selF, selT, List.take_succ_cons, List.take_zero, List.drop_succ_cons, List.drop_zero]
  refine pflow_val (v := ?_) rfl ?_ ?_; rotate_left; (intro W hW; go_simp; with_reducible rfl)
  simp only [Act.put, List.setIfInBounds_toArray, List.set_cons_succ, List.set_cons_zero]
  refine pflow_val (v := ?_) rfl ?_ ?_; rotate_left; (intro W hW; go_simp; with_reducible rfl)
  simp only [Act.put, List.setIfInBounds_toArray, List.set_cons_succ, List.set_cons_zero]
  refine pflow_val (v := ?_) rfl ?_ ?_; rotate_left; (intro W hW; go_simp; with_reducible rfl)
  simp only [Act.put, List.setIfInBounds_toArray, List.set_cons_succ, List.set_cons_zero]
  intro W hW
  refine Or.inl ⟨rfl, ?_⟩
  go_simp
  (with_reducible refine (copyListsB_any _ l W w0.heap.size hW.below.size (HL.out.keep hW.below) (by omega) (fun v row hv => Nat.le_trans (Hr6.out v row hv) (by omega))).mono ?_)
  rintro e W' ⟨ul, SL, rfl, ho, hb⟩
  refine ⟨_, rfl, hW.trans hb, ?_⟩
  replace hW := hW.trans hb
  obtain ⟨AU, mU, cU, rfl⟩ := lawII.one ho
  have hSLr := lawII.range ho
  have HO := Lib.hid ho
  have HSW : Hid (w0.heap.size ≤ W'.heap.size) := (Since.below hW).size
  have HSL : Hid (∀ k ∈ SL, k < W'.heap.size) := fun k hk => (hSLr k hk).2
  clear ho hb hSLr
  (try simp only [Act.put, List.setIfInBounds_toArray, List.set_cons_succ, List.set_cons_zero])
  refine tflow_val (v := ?_) rfl ?_ hW ?_; rotate_left; (go_simp; with_reducible rfl)
  simp only [Act.put, List.setIfInBounds_toArray, List.set_cons_succ, List.set_cons_zero]
  refine tflow_alloc (v := ?_) (ob := ?_) rfl ?_ hW ?_; rotate_left 2
  (go_simp; first | with_reducible rfl | (refine ⟨?_, ?_⟩ <;> with_reducible rfl))
  intro w8 hw8d hw8s
  replace hW := hw8s
  clear hw8s
  skip
  (try simp only [Act.put, List.setIfInBounds_toArray, List.set_cons_succ, List.set_cons_zero])
  simp only [TFlow]
  obtain ⟨sb, hsb⟩ : ∃ sb, sb = W'.heap.size := ⟨_, rfl⟩
  rw [← hsb]
  have hBx : BoxA w8 sb (arrI p (.slice P0 p.nodes.length pz0) (.slice P1 p.edges.length pz1) (.slice A n.ends.length c) (.slice A2 n.ids.length c2) (.slice A3 n.inputs.length c3) (.slice AU mU cU) (.slice none 0 0) 0) := by rw [hw8d, hsb]; exact BoxA.new _ _ _
  have hbw8 : Below W'.heap.size W' w8 := by rw [hw8d]; exact below_alloc _ _
  have hsz8 : w8.heap.size = sb + 1 := by rw [hw8d, hsb]; simp
  have hsm : SolM w8 sb (arrI p (.slice P0 p.nodes.length pz0) (.slice P1 p.edges.length pz1) (.slice A n.ends.length c) (.slice A2 n.ids.length c2) (.slice A3 n.inputs.length c3) (.slice AU mU cU) (.slice none 0 0) 0) l [] (.slice AU mU cU) (.slice none 0 0) SL w0.heap.size := ⟨hBx, lawII.keep HO.out hbw8, by rw [hsb]; exact HSL.out, ⟨_, World.ownsRow_nil _ _ _ _, rfl⟩⟩
  have Hsm := Lib.hid hsm
  have Hs8 := Lib.hid hsz8
  have HW8 := Lib.hid hW
  have Hsb0 : Hid (w0.heap.size ≤ sb) := by
    show _ ≤ _
    rw [hsb]
    exact HSW.out
  clear hw8d hsb hBx hbw8 hsz8 hsm hW HO HSL
  go_wp2
  go_loopw [19] (fun i wr => ∃ (k : Nat) (uf : Value), k ≤ l.length ∧ i = .int .i64 k ∧ SolM wr sb (arrI p (.slice P0 p.nodes.length pz0) (.slice P1 p.edges.length pz1) (.slice A n.ends.length c) (.slice A2 n.ids.length c2) (.slice A3 n.inputs.length c3) (.slice AU mU cU) uf 0) l (freeU l k) (.slice AU mU cU) uf SL w0.heap.size ∧ Since w0 wr ∧ sb + 1 ≤ wr.heap.size) (fun i _ => l.length - (intOf i).toNat)
  case atStart => exact ⟨0, _, Nat.zero_le _, rfl, Hsm.out, HW8.out, Nat.le_of_eq Hs8.out.symm⟩
  case round =>
    obtain ⟨k, uf, hk, rfl, hsm, hb, hsz⟩ := hrel
    have Hsm := Lib.hid hsm
    have Hb := Lib.hid hb
    have Hsz := Lib.hid hsz
    clear hsm hb hsz
    by_cases hlt : k < l.length
    · obtain ⟨row, b, off, A1, z1, hx, rfl, hc1, hz1, hz2, hxs⟩ := rows_get HL.out hlt
      have q1 := have_cell hc1
      have hq := q1 _ Hb.out
      have hrow6 := Hr6.out k row hx
      have Hrow := Lib.hid hx
      have HX := Lib.hid hxs
      clear hc1 hxs hx
      go_upto_region 6 with (fail)
      go_loopw [27] (fun i wr => ∃ (j : Nat) (uf : Value), j ≤ row.length ∧ i = .int .i64 j ∧ SolM wr sb (arrI p (.slice P0 p.nodes.length pz0) (.slice P1 p.edges.length pz1) (.slice A n.ends.length c) (.slice A2 n.ids.length c2) (.slice A3 n.inputs.length c3) (.slice AU mU cU) uf 0) l (freeU l k ++ freeRU k row j) (.slice AU mU cU) uf SL w0.heap.size ∧ Since w0 wr ∧ sb + 1 ≤ wr.heap.size) (fun i _ => row.length - (intOf i).toNat)
      case atStart => exact ⟨0, uf, Nat.zero_le _, rfl, by have := Hsm.out; simpa [freeRU] using this, Hb.out, Hsz.out⟩
      case round =>
        obtain ⟨j, ug, hj, rfl, hsm, hb, hsz⟩ := hrel
        have Hsj := Lib.hid hsm
        have Hbj := Lib.hid hb
        have Hszj := Lib.hid hsz
        clear hsm hb hsz hq
        by_cases hjl : j < row.length
        · obtain ⟨A', c', e, -, -, hA1⟩ := HX.out
          cases e
          obtain ⟨x, b1, off1, hx, rfl, hcx⟩ := ints_get hA1 hjl
          have hqx := have_cell hcx _ Hbj.out
          have Hfs : Hid (freeRU k row (j + 1) = freeRU k row j ++ (if x < 0 then [((k : Int), (j : Int))] else [])) := by show _ = _; rw [freeRU_succ, getD_of hx]
          clear hx hcx hA1
          by_cases hx0 : x < 0
          · have hlen := Lib.hid (Hfl.out k j row hk (by omega))
            obtain ⟨PL, hPL⟩ : ∃ PL, PL = freeU l k ++ freeRU k row j := ⟨_, rfl⟩
            rw [← hPL] at Hsj hlen
            have HPL := Lib.hid hPL
            clear hPL
            have d8 := (Hsj.out.1.cell 8 ug rfl).1
            have hsa : sb + 1 ≤ (wr.alloc (.cells #[.int .i64 k, .int .i64 j] 114)).heap.size := by have := Hszj.out; simp; omega
            have HoE : Hid (∃ T, OwnE (wr.alloc (.cells #[.int .i64 k, .int .i64 j] 114)) (sb + 1) ug PL T) := by
              obtain ⟨T, hT⟩ := Hsj.out.2.2.2
              exact ⟨T, lawE.keep hT (below_alloc _ _)⟩
            have Hsa := Lib.hid hsa
            clear hsa
            have d8b : (wr.alloc (.cells #[.int .i64 k, .int .i64 j] 114)).cell? ⟨sb, 8, none⟩ = some ug := ((Hsj.out.1.alloc _).cell 8 ug rfl).1
            go_wp2_with (at_builtin; refine app_endG rfl _ _ rfl rfl HoE.out wr.heap.size ((k : Int), (j : Int)) rfl (by simp [go_sem]) (by simp [go_sem]) hlen.out Hsa.out ?_; intro g cap w3 ho3 hg3 hv3 hg3b; obtain ⟨kb, kk1, kk2, kk3⟩ := SolM.push Hsj.out ho3 hg3 hv3 Hszj.out; have hd3 := (kb.cell 8 ug rfl).1; have hf3 := (kb.cell 8 ug rfl).2; have Hk1 := Lib.hid kk1; have Hk2 := Lib.hid kk2; have Hk3 := Lib.hid kk3; clear kk1 kk2 kk3 ho3 hg3 hv3 hg3b kb)
            go_roundw
            case rel => exact ⟨j + 1, _, by omega, by go_num, by rw [Hfs.out, if_pos hx0, ← List.append_assoc, ← HPL.out]; exact Hk1.out, Hk2.out w0 Hbj.out Hsb0.out, Hk3.out⟩
            case measure => simp [intOf]; omega
          · go_wp2
            go_roundw
            case rel => exact ⟨j + 1, ug, by omega, by go_num, by rw [Hfs.out, if_neg hx0, List.append_nil]; exact Hsj.out, Hbj.out, Hszj.out⟩
            case measure => simp [intOf]; omega
        · obtain rfl : j = row.length := by omega
          have Hn : Hid (freeU l (k + 1) = freeU l k ++ freeRU k row row.length) := by show _ = _; rw [freeU_succ, getD_of Hrow.out]; rfl
          go_wp2
          go_roundw
          case rel => exact ⟨k + 1, ug, by omega, by go_num, by rw [Hn.out]; exact Hsj.out, Hbj.out, Hszj.out⟩
          case measure => simp [intOf]; omega
    · obtain rfl : k = l.length := by omega
      have Hf : Hid (SolM wr sb (arrI p (.slice P0 p.nodes.length pz0) (.slice P1 p.edges.length pz1) (.slice A n.ends.length c) (.slice A2 n.ids.length c2) (.slice A3 n.inputs.length c3) (.slice AU mU cU) uf 0) l (freeP l) (.slice AU mU cU) uf SL w0.heap.size) := Hsm.out
      have hwb := Hb0.out.size
      go_wp2
      go_ret
      exact ⟨sb, _, uf, SL, rfl, ⟨Hf.out.1, lawII.mono Hf.out.2.1 hwb, Hf.out.2.2⟩, Nat.le_trans hwb Hsb0.out, Since.after Hb0.out Hb.out⟩
set_option maxRecDepth 100000 in
set_option maxHeartbeats 8000000 in
theorem soStart_any (pa pb ve vi vn vl : Value) (p : Prob) (n : Net) (l : List (List Int)) (most : Int) (w : World) (hp : PrIn w pa pb p) (h : NetIn w ve vi vn n) (hl : IntSS w vl l) (hl40 : l.length ≤ 40) (hr6 : ∀ (v : Nat) (row : List Int), l[v]? = some row → row.length ≤ 6) :
    Calls Tryz.prog 95 #[.agg #[.int .i64 p.labels, .int .i64 p.degree, pa, pb], .agg #[ve, vi, vn], vl, .int .i64 most] w fun e w' => ∃ sb ul uf SL, e = .returned (.pointer (some ⟨sb, 0, none⟩)) ∧ SolM w' sb (arrS p pa pb ve vi vn ul uf 0 0 most true) l (freeP l) ul uf SL w.heap.size ∧ w.heap.size ≤ sb ∧ Below w.heap.size w w' := by
  obtain ⟨w0, hw0⟩ : ∃ w0, w0 = ((w).alloc (.cells #[.int .i64 p.labels, .int .i64 p.degree, pa, pb] 74)).alloc (.cells #[ve, vi, vn] 43) := ⟨_, rfl⟩
  have hb0 : Below w.heap.size w w0 := by rw [hw0]; exact (((Below.refl _ _).alloc (by simp <;> omega) _).alloc (by simp <;> omega) _)
  have H := Lib.hid (h.keep hb0)
  obtain ⟨h1, h2, h3⟩ := h.keep hb0
  obtain ⟨A, c, rfl, hlc, hm, hA⟩ := h1
  obtain ⟨A2, c2, rfl, _, hm2, _⟩ := h2
  obtain ⟨A3, c3, rfl, _, hm3, _⟩ := h3
  unfold maxLen at hm hm2 hm3
  have hkP := hp.keep hb0
  have HP := Lib.hid hkP
  obtain ⟨P0, pz0, rfl, hlP0, hmP0, hPe0⟩ := id hkP.1
  unfold maxLen at hmP0
  have HPe0 := Lib.hid hPe0
  clear hPe0
  obtain ⟨P1, pz1, rfl, hlP1, hmP1, hPe1⟩ := id hkP.2
  unfold maxLen at hmP1
  have HPe1 := Lib.hid hPe1
  clear hPe1
  clear hkP hp
  have p00 : ∀ W, Since w0 W → W.cell? ⟨w.heap.size, 0, none⟩ = some (.int .i64 p.labels) := have_cell (by rw [hw0]; simp)
  have p01 : ∀ W, Since w0 W → W.cell? ⟨w.heap.size, 1, none⟩ = some (.int .i64 p.degree) := have_cell (by rw [hw0]; simp)
  have p02 : ∀ W, Since w0 W → W.cell? ⟨w.heap.size, 2, none⟩ = some (.slice P0 p.nodes.length pz0) := have_cell (by rw [hw0]; simp)
  have p03 : ∀ W, Since w0 W → W.cell? ⟨w.heap.size, 3, none⟩ = some (.slice P1 p.edges.length pz1) := have_cell (by rw [hw0]; simp)
  have p10 : ∀ W, Since w0 W → W.cell? ⟨w.heap.size + 1, 0, none⟩ = some (.slice A n.ends.length c) := have_cell (by rw [hw0]; simp)
  have p11 : ∀ W, Since w0 W → W.cell? ⟨w.heap.size + 1, 1, none⟩ = some (.slice A2 n.ids.length c2) := have_cell (by rw [hw0]; simp)
  have p12 : ∀ W, Since w0 W → W.cell? ⟨w.heap.size + 1, 2, none⟩ = some (.slice A3 n.inputs.length c3) := have_cell (by rw [hw0]; simp)
  have Hb0 := Lib.hid hb0
  have Hw0 := Lib.hid hw0
  have HA := Lib.hid hA
  clear hA h
  clear hb0 hw0
  have HL := Lib.hid (hl.keep Hb0.out)
  obtain ⟨AL, cL, rfl, hlL, hmL, -⟩ := hl
  unfold maxLen at hmL
  have Hr6 := Lib.hid hr6
  have Hfl : Hid (∀ (k j : Nat) (row : List Int), k ≤ l.length → j ≤ 6 → (freeU l k ++ freeRU k row j).length + 1 ≤ 1000000) := by
    intro k j row hk hj
    have h1 := freeU_le hr6 k
    have h2 := freeRU_le k row j
    rw [List.length_append]
    omega
  clear hr6
  go_enter Tryz.func95, Tryz.ntmps95
  go_upto_region 1 with (fail)
  rw [← Hw0.out]
  refine wp_region_chain (w0 := w0) 7 [false, false, false, true, false, true, true] (by kernel_rfl) (by kernel_rfl) (since_refl _) ?_
  simp only [selF, selT, List.take_succ_cons, List.take_zero, List.drop_succ_cons, List.drop_zero]
  refine pflow_val (v := ?_) rfl ?_ ?_; rotate_left; (intro W hW; go_simp; with_reducible rfl)
  simp only [Act.put, List.setIfInBounds_toArray, List.set_cons_succ, List.set_cons_zero]
  refine pflow_val (v := ?_) rfl ?_ ?_; rotate_left; (intro W hW; go_simp; with_reducible rfl)
  simp only [Act.put, List.setIfInBounds_toArray, List.set_cons_succ, List.set_cons_zero]
  refine pflow_val (v := ?_) rfl ?_ ?_; rotate_left; (intro W hW; go_simp; with_reducible rfl)
  simp only [Act.put, List.setIfInBounds_toArray, List.set_cons_succ, List.set_cons_zero]
  refine pflow_val (v := ?_) rfl ?_ ?_; rotate_left; (intro W hW; go_simp; with_reducible rfl)
  simp only [Act.put, List.setIfInBounds_toArray, List.set_cons_succ, List.set_cons_zero]
  intro W hW
  refine Or.inl ⟨rfl, ?_⟩
  go_simp
  (with_reducible refine (soCopyB_any _ l W w0.heap.size hW.below.size (HL.out.keep hW.below) (by omega) (fun v row hv => Nat.le_trans (Hr6.out v row hv) (by omega))).mono ?_)
  rintro e W' ⟨ul, SL, rfl, ho, hb⟩
  refine ⟨_, rfl, hW.trans hb, ?_⟩
  replace hW := hW.trans hb
  obtain ⟨AU, mU, cU, rfl⟩ := lawII.one ho
  have hSLr := lawII.range ho
  have HO := Lib.hid ho
  have HSW : Hid (w0.heap.size ≤ W'.heap.size) := (Since.below hW).size
  have HSL : Hid (∀ k ∈ SL, k < W'.heap.size) := fun k hk => (hSLr k hk).2
  clear ho hb hSLr
  (try simp only [Act.put, List.setIfInBounds_toArray, List.set_cons_succ, List.set_cons_zero])
  refine tflow_val (v := ?_) rfl ?_ hW ?_; rotate_left; (go_simp; with_reducible rfl)
  simp only [Act.put, List.setIfInBounds_toArray, List.set_cons_succ, List.set_cons_zero]
  refine tflow_alloc (v := ?_) (ob := ?_) rfl ?_ hW ?_; rotate_left 2
  (go_simp; first | with_reducible rfl | (refine ⟨?_, ?_⟩ <;> with_reducible rfl))
  intro w8 hw8d hw8s
  replace hW := hw8s
  clear hw8s
  skip
  (try simp only [Act.put, List.setIfInBounds_toArray, List.set_cons_succ, List.set_cons_zero])
  simp only [TFlow]
  obtain ⟨sb, hsb⟩ : ∃ sb, sb = W'.heap.size := ⟨_, rfl⟩
  rw [← hsb]
  have hBx : BoxA w8 sb (arrS p (.slice P0 p.nodes.length pz0) (.slice P1 p.edges.length pz1) (.slice A n.ends.length c) (.slice A2 n.ids.length c2) (.slice A3 n.inputs.length c3) (.slice AU mU cU) (.slice none 0 0) 0 0 most true) := by rw [hw8d, hsb]; exact BoxA.new _ _ _
  have hbw8 : Below W'.heap.size W' w8 := by rw [hw8d]; exact below_alloc _ _
  have hsz8 : w8.heap.size = sb + 1 := by rw [hw8d, hsb]; simp
  have hsm : SolM w8 sb (arrS p (.slice P0 p.nodes.length pz0) (.slice P1 p.edges.length pz1) (.slice A n.ends.length c) (.slice A2 n.ids.length c2) (.slice A3 n.inputs.length c3) (.slice AU mU cU) (.slice none 0 0) 0 0 most true) l [] (.slice AU mU cU) (.slice none 0 0) SL w0.heap.size := ⟨hBx, lawII.keep HO.out hbw8, by rw [hsb]; exact HSL.out, ⟨_, World.ownsRow_nil _ _ _ _, rfl⟩⟩
  have Hsm := Lib.hid hsm
  have Hs8 := Lib.hid hsz8
  have HW8 := Lib.hid hW
  have Hsb0 : Hid (w0.heap.size ≤ sb) := by
    show _ ≤ _
    rw [hsb]
    exact HSW.out
  clear hw8d hsb hBx hbw8 hsz8 hsm hW HO HSL
  go_wp2
  go_loopw [23] (fun i wr => ∃ (k : Nat) (uf : Value), k ≤ l.length ∧ i = .int .i64 k ∧ SolM wr sb (arrS p (.slice P0 p.nodes.length pz0) (.slice P1 p.edges.length pz1) (.slice A n.ends.length c) (.slice A2 n.ids.length c2) (.slice A3 n.inputs.length c3) (.slice AU mU cU) uf 0 0 most true) l (freeU l k) (.slice AU mU cU) uf SL w0.heap.size ∧ Since w0 wr ∧ sb + 1 ≤ wr.heap.size) (fun i _ => l.length - (intOf i).toNat)
  case atStart => exact ⟨0, _, Nat.zero_le _, rfl, Hsm.out, HW8.out, Nat.le_of_eq Hs8.out.symm⟩
  case round =>
    obtain ⟨k, uf, hk, rfl, hsm, hb, hsz⟩ := hrel
    have Hsm := Lib.hid hsm
    have Hb := Lib.hid hb
    have Hsz := Lib.hid hsz
    clear hsm hb hsz
    by_cases hlt : k < l.length
    · obtain ⟨row, b, off, A1, z1, hx, rfl, hc1, hz1, hz2, hxs⟩ := rows_get HL.out hlt
      have q1 := have_cell hc1
      have hq := q1 _ Hb.out
      have hrow6 := Hr6.out k row hx
      have Hrow := Lib.hid hx
      have HX := Lib.hid hxs
      clear hc1 hxs hx
      go_upto_region 6 with (fail)
      go_loopw [30] (fun i wr => ∃ (j : Nat) (uf : Value), j ≤ row.length ∧ i = .int .i64 j ∧ SolM wr sb (arrS p (.slice P0 p.nodes.length pz0) (.slice P1 p.edges.length pz1) (.slice A n.ends.length c) (.slice A2 n.ids.length c2) (.slice A3 n.inputs.length c3) (.slice AU mU cU) uf 0 0 most true) l (freeU l k ++ freeRU k row j) (.slice AU mU cU) uf SL w0.heap.size ∧ Since w0 wr ∧ sb + 1 ≤ wr.heap.size) (fun i _ => row.length - (intOf i).toNat)
      case atStart => exact ⟨0, uf, Nat.zero_le _, rfl, by have := Hsm.out; simpa [freeRU] using this, Hb.out, Hsz.out⟩
      case round =>
        obtain ⟨j, ug, hj, rfl, hsm, hb, hsz⟩ := hrel
        have Hsj := Lib.hid hsm
        have Hbj := Lib.hid hb
        have Hszj := Lib.hid hsz
        clear hsm hb hsz hq
        by_cases hjl : j < row.length
        · obtain ⟨A', c', e, -, -, hA1⟩ := HX.out
          cases e
          obtain ⟨x, b1, off1, hx, rfl, hcx⟩ := ints_get hA1 hjl
          have hqx := have_cell hcx _ Hbj.out
          have Hfs : Hid (freeRU k row (j + 1) = freeRU k row j ++ (if x < 0 then [((k : Int), (j : Int))] else [])) := by show _ = _; rw [freeRU_succ, getD_of hx]
          clear hx hcx hA1
          by_cases hx0 : x < 0
          · have hlen := Lib.hid (Hfl.out k j row hk (by omega))
            obtain ⟨PL, hPL⟩ : ∃ PL, PL = freeU l k ++ freeRU k row j := ⟨_, rfl⟩
            rw [← hPL] at Hsj hlen
            have HPL := Lib.hid hPL
            clear hPL
            have d8 := (Hsj.out.1.cell 8 ug rfl).1
            have hsa : sb + 1 ≤ (wr.alloc (.cells #[.int .i64 k, .int .i64 j] 114)).heap.size := by have := Hszj.out; simp; omega
            have HoE : Hid (∃ T, OwnE (wr.alloc (.cells #[.int .i64 k, .int .i64 j] 114)) (sb + 1) ug PL T) := by
              obtain ⟨T, hT⟩ := Hsj.out.2.2.2
              exact ⟨T, lawE.keep hT (below_alloc _ _)⟩
            have Hsa := Lib.hid hsa
            clear hsa
            have d8b : (wr.alloc (.cells #[.int .i64 k, .int .i64 j] 114)).cell? ⟨sb, 8, none⟩ = some ug := ((Hsj.out.1.alloc _).cell 8 ug rfl).1
            go_wp2_with (at_builtin; refine app_endG rfl _ _ rfl rfl HoE.out wr.heap.size ((k : Int), (j : Int)) rfl (by simp [go_sem]) (by simp [go_sem]) hlen.out Hsa.out ?_; intro g cap w3 ho3 hg3 hv3 hg3b; obtain ⟨kb, kk1, kk2, kk3⟩ := SolM.push Hsj.out ho3 hg3 hv3 Hszj.out; have hd3 := (kb.cell 8 ug rfl).1; have hf3 := (kb.cell 8 ug rfl).2; have Hk1 := Lib.hid kk1; have Hk2 := Lib.hid kk2; have Hk3 := Lib.hid kk3; clear kk1 kk2 kk3 ho3 hg3 hv3 hg3b kb)
            go_roundw
            case rel => exact ⟨j + 1, _, by omega, by go_num, by rw [Hfs.out, if_pos hx0, ← List.append_assoc, ← HPL.out]; exact Hk1.out, Hk2.out w0 Hbj.out Hsb0.out, Hk3.out⟩
            case measure => simp [intOf]; omega
          · go_wp2
            go_roundw
            case rel => exact ⟨j + 1, ug, by omega, by go_num, by rw [Hfs.out, if_neg hx0, List.append_nil]; exact Hsj.out, Hbj.out, Hszj.out⟩
            case measure => simp [intOf]; omega
        · obtain rfl : j = row.length := by omega
          have Hn : Hid (freeU l (k + 1) = freeU l k ++ freeRU k row row.length) := by show _ = _; rw [freeU_succ, getD_of Hrow.out]; rfl
          go_wp2
          go_roundw
          case rel => exact ⟨k + 1, ug, by omega, by go_num, by rw [Hn.out]; exact Hsj.out, Hbj.out, Hszj.out⟩
          case measure => simp [intOf]; omega
    · obtain rfl : k = l.length := by omega
      have Hf : Hid (SolM wr sb (arrS p (.slice P0 p.nodes.length pz0) (.slice P1 p.edges.length pz1) (.slice A n.ends.length c) (.slice A2 n.ids.length c2) (.slice A3 n.inputs.length c3) (.slice AU mU cU) uf 0 0 most true) l (freeP l) (.slice AU mU cU) uf SL w0.heap.size) := Hsm.out
      have hwb := Hb0.out.size
      go_wp2
      go_ret
      exact ⟨sb, _, uf, SL, rfl, ⟨Hf.out.1, lawII.mono Hf.out.2.1 hwb, Hf.out.2.2⟩, Nat.le_trans hwb Hsb0.out, Since.after Hb0.out Hb.out⟩
end Go.Proofs.YtomnaabadohecaaGreat
