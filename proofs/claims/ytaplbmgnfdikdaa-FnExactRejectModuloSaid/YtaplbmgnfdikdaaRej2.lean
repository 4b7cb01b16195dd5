import Derived.Test.YtaplbmgnfdikdaaRej
namespace Go.Proofs.Ytaplbmgnfdikdaa
open Go.RowKit
theorem mod1_enters : ∀ args w, (callFunc 115 args).run Try.prog w = .ok (.enter 115 args) w := enters_of Try.func115 (by kernel_rfl) rfl
theorem rej1_enters : ∀ args w, (callFunc 73 args).run Try.prog w = .ok (.enter 73 args) w := enters_of Try.func73 (by kernel_rfl) rfl
/-- the verifier of remainders as a value -/
def modF (b : Nat) : Value := .func (.func 115) #[] #[.pointer (some ⟨b, 0, none⟩), .pointer (some ⟨b + 1, 0, none⟩)]
set_option maxHeartbeats 2000000 in
theorem moduloVerifier_any (ve vi vn : Value) (n : Net) (m : Int) (w : World) (h : NetIn w ve vi vn n) :
    Calls Try.prog 70 #[.agg #[ve, vi, vn], .int .i64 m] w fun e w' => e = .returned (modF w.heap.size) ∧ w' = (w.alloc (.cells #[ve, vi, vn] 31)).alloc (.cells #[.int .i64 m] 3) := by
  obtain ⟨⟨A, c, rfl, hlc, hm, _⟩, ⟨A2, c2', rfl, _, hm2', _⟩, ⟨A3, c3', rfl, _, hm3', _⟩⟩ := h
  go_enter Try.func70, Try.ntmps70
  go_wp2
  go_ret
  exact ⟨rfl, rfl⟩
set_option maxHeartbeats 2000000 in
theorem rej1_any (ve vi vn vl : Value) (n : Net) (m : Int) (ls : List Int) (k : Nat) (es : List (Int × Int)) (l : Int) (b ba bl : Nat) (w : World) (h : NetIn w ve vi vn n) (hl : IntS w vl ls) (hes : n.ends[k]? = some es) (hle : es.length ≤ 6) (hin : ∀ e ∈ es, 0 ≤ e.1 ∧ e.1 < ls.length)
    (hx : ∀ x ∈ nearB ls es, 0 ≤ x ∧ x < m) (hm1 : 3 ≤ m) (hm2 : m ≤ 40) (hk : ls[k]? = some l) (hl1 : 0 ≤ l) (hl2 : l < m)
    (c0 : w.cell? ⟨b, 0, none⟩ = some ve) (c1 : w.cell? ⟨b, 1, none⟩ = some vi) (c2 : w.cell? ⟨b, 2, none⟩ = some vn) (c3 : w.cell? ⟨b + 1, 0, none⟩ = some (.int .i64 m)) (c4 : w.cell? ⟨ba, 0, none⟩ = some (modF b)) (c5 : w.cell? ⟨bl, 0, none⟩ = some vl) :
    Calls Try.prog 73 #[.int .i64 k, .pointer (some ⟨ba, 0, none⟩), .pointer (some ⟨bl, 0, none⟩)] w fun e w' => e = .returned (.bool (modI m l (nearB ls es))) ∧ Below w.heap.size w w' := by
  have hc := mod1_any ve vi vn vl n m ls k es l b (b + 1) w h hl hes hle hin hx hm1 hm2 hk hl1 hl2 c0 c1 c2 c3
  have Hc := Lib.hid hc
  obtain ⟨AL, cL, rfl, hlL, hmL, _⟩ := hl
  unfold modF at c4
  have eg := mod1_enters
  clear hc h hes hin hx hk c0 c1 c2 c3
  go_enter Try.func73, Try.ntmps73
  go_wp2_with fail
  refine Hc.out.mono ?_
  rintro e w2 ⟨rfl, hb⟩
  have Hb := Lib.hid hb
  clear hb
  go_wp2
  go_ret
  exact ⟨rfl, Hb.out⟩
theorem rej_len {n : Net} {m : Int} {ls : List Int} (h : fnExactRejectModulo_r1 n m ls = true) : ls.length ≤ 1000000 := by
  unfold fnExactRejectModulo_r1 at h
  simp only [Bool.and_eq_true, beq_iff_eq] at h
  have := netOk_len h.1.1.1
  omega
set_option maxRecDepth 100000 in
set_option maxHeartbeats 8000000 in
theorem fnExactRejectModulo_impl (ve vi vn : Value) (n : Net) (m : Int) (vl : Value) (ls : List Int) (w : World) (h : NetIn w ve vi vn n) (_ : -9223372036854775808 ≤ m ∧ m ≤ 9223372036854775807) (hl : IntS w vl ls) (hsz : szNet n ≤ 1048576) (hbig : ls.length ≤ 1048576) :
    Calls Try.prog 30 #[.agg #[ve, vi, vn], .int .i64 m, vl] w fun e w' => ∃ u, e = .returned (.tuple #[u, .bool (fnExactRejectModulo_r1 n m ls)]) ∧ Own w' w.heap.size u (fnExactRejectModulo_d n m ls) ∧ Below w.heap.size w w' := by
  have HL0 := Lib.hid hl
  obtain ⟨AL, cL, rfl, hlL, hmL, _⟩ := hl
  unfold maxLen at hmL
  obtain ⟨w0, hw0⟩ : ∃ w0, w0 = ((w).alloc (.cells #[ve, vi, vn] 31)).alloc (.cells #[.slice AL ls.length cL] 23) := ⟨_, rfl⟩
  have hb0 : Below w.heap.size w w0 := by rw [hw0]; exact (((Below.refl _ _).alloc (by simp <;> omega) _).alloc (by simp <;> omega) _)
  have H := Lib.hid (h.keep hb0)
  obtain ⟨h1, h2, h3⟩ := h.keep hb0
  obtain ⟨A, c, rfl, hlc, hm, hA⟩ := h1
  obtain ⟨A2, c2, rfl, _, hm2, _⟩ := h2
  obtain ⟨A3, c3, rfl, _, hm3, _⟩ := h3
  unfold maxLen at hm hm2 hm3
  have p00 : ∀ W, Since w0 W → W.cell? ⟨w.heap.size, 0, none⟩ = some (.slice A n.ends.length c) := have_cell (by rw [hw0]; simp)
  have p01 : ∀ W, Since w0 W → W.cell? ⟨w.heap.size, 1, none⟩ = some (.slice A2 n.ids.length c2) := have_cell (by rw [hw0]; simp)
  have p02 : ∀ W, Since w0 W → W.cell? ⟨w.heap.size, 2, none⟩ = some (.slice A3 n.inputs.length c3) := have_cell (by rw [hw0]; simp)
  have p10 : ∀ W, Since w0 W → W.cell? ⟨w.heap.size + 1, 0, none⟩ = some (.slice AL ls.length cL) := have_cell (by rw [hw0]; simp)
  have Hb0 := Lib.hid hb0
  have Hw0 := Lib.hid hw0
  have HA := Lib.hid hA
  clear hA h
  clear hb0 hw0
  have HL := Lib.hid (HL0.out.keep Hb0.out)
  go_enter Try.func30, Try.ntmps30
  go_upto_region 1 with (fail)
  rw [← Hw0.out]
  refine wp_region_flow0 23 (Since w0) (since_refl _) ?_
  simp only [List.take_succ_cons, List.take_zero, List.drop_succ_cons, List.drop_zero]
  refine flow_val (v := ?_) rfl ?_ ?_; rotate_left; (intro W hW; go_simp; with_reducible rfl)
  simp only [Act.put, List.setIfInBounds_toArray, List.set_cons_succ, List.set_cons_zero]
  refine flow_op ?_ rfl ?_ ?_; rotate_left; (intro W hW; unfold Gives; go_simp; (with_reducible refine (isNetwork_any _ _ _ n W (H.out.keep hW.below) (szNet_ids hsz)).mono ?_); rintro e W' ⟨rfl, hb3⟩; first | (refine ⟨?_, Since.trans hW hb3⟩; with_reducible rfl) | (subst hb3; refine ⟨?_, hW⟩; with_reducible rfl))
  simp only [Act.put, List.setIfInBounds_toArray, List.set_cons_succ, List.set_cons_zero]
  refine flow_val (v := ?_) rfl ?_ ?_; rotate_left; (intro W hW; go_simp; with_reducible rfl)
  simp only [Act.put, List.setIfInBounds_toArray, List.set_cons_succ, List.set_cons_zero]
  refine flow_val (v := ?_) rfl ?_ ?_; rotate_left; (intro W hW; go_simp; with_reducible rfl)
  simp only [Act.put, List.setIfInBounds_toArray, List.set_cons_succ, List.set_cons_zero]
  refine flow_gval (v := ?_) rfl rfl ?_ ?_; rotate_left; (intro hb W hW; go_simp; with_reducible rfl)
  simp only [Act.put, List.setIfInBounds_toArray, List.set_cons_succ, List.set_cons_zero]
  refine flow_gop (v := ?_) rfl rfl ?_ ?_; rotate_left; (intro hb W hW; unfold Gives; go_simp; (with_reducible refine (within_b _ _ _ W).mono ?_); rintro e W' ⟨rfl, hb3⟩; first | (refine ⟨?_, Since.trans hW hb3⟩; with_reducible rfl) | (subst hb3; refine ⟨?_, hW⟩; with_reducible rfl))
  simp only [Act.put, List.setIfInBounds_toArray, List.set_cons_succ, List.set_cons_zero]
  refine flow_gval (v := ?_) rfl rfl ?_ ?_; rotate_left; (intro hb W hW; go_simp; with_reducible rfl)
  simp only [Act.put, List.setIfInBounds_toArray, List.set_cons_succ, List.set_cons_zero]
  first | refine flow_or rfl rfl ?_ | (refine flow_val (v := ?_) rfl ?_ ?_; rotate_left; (intro W hW; go_simp; with_reducible rfl))
  simp only [Act.put, List.setIfInBounds_toArray, List.set_cons_succ, List.set_cons_zero]
  refine flow_val (v := ?_) rfl ?_ ?_; rotate_left; (intro W hW; go_simp; with_reducible rfl)
  simp only [Act.put, List.setIfInBounds_toArray, List.set_cons_succ, List.set_cons_zero]
  refine flow_gval (v := ?_) rfl rfl ?_ ?_; rotate_left; (intro hb W hW; go_simp; with_reducible rfl)
  simp only [Act.put, List.setIfInBounds_toArray, List.set_cons_succ, List.set_cons_zero]
  refine flow_gval (v := ?_) rfl rfl ?_ ?_; rotate_left; (intro hb W hW; go_simp; with_reducible rfl)
  simp only [Act.put, List.setIfInBounds_toArray, List.set_cons_succ, List.set_cons_zero]
  refine flow_gval (v := ?_) rfl rfl ?_ ?_; rotate_left; (intro hb W hW; go_simp; with_reducible rfl)
  simp only [Act.put, List.setIfInBounds_toArray, List.set_cons_succ, List.set_cons_zero]
  refine flow_gval (v := ?_) rfl rfl ?_ ?_; rotate_left; (intro hb W hW; go_simp; with_reducible rfl)
  simp only [Act.put, List.setIfInBounds_toArray, List.set_cons_succ, List.set_cons_zero]
  refine flow_gval (v := ?_) rfl rfl ?_ ?_; rotate_left; (intro hb W hW; go_simp; with_reducible rfl)
  simp only [Act.put, List.setIfInBounds_toArray, List.set_cons_succ, List.set_cons_zero]
  refine flow_gval (v := ?_) rfl rfl ?_ ?_; rotate_left; (intro hb W hW; go_simp; with_reducible rfl)
  simp only [Act.put, List.setIfInBounds_toArray, List.set_cons_succ, List.set_cons_zero]
  first | refine flow_or rfl rfl ?_ | (refine flow_val (v := ?_) rfl ?_ ?_; rotate_left; (intro W hW; go_simp; with_reducible rfl))
  simp only [Act.put, List.setIfInBounds_toArray, List.set_cons_succ, List.set_cons_zero]
  refine flow_val (v := ?_) rfl ?_ ?_; rotate_left; (intro W hW; go_simp; with_reducible rfl)
  simp only [Act.put, List.setIfInBounds_toArray, List.set_cons_succ, List.set_cons_zero]
  refine flow_gval (v := ?_) rfl rfl ?_ ?_; rotate_left; (intro hb W hW; go_simp; with_reducible rfl)
  simp only [Act.put, List.setIfInBounds_toArray, List.set_cons_succ, List.set_cons_zero]
  refine flow_gval (v := ?_) rfl rfl ?_ ?_; rotate_left; (intro hb W hW; go_simp; with_reducible rfl)
  simp only [Act.put, List.setIfInBounds_toArray, List.set_cons_succ, List.set_cons_zero]
  refine flow_gval (v := ?_) rfl rfl ?_ ?_; rotate_left; (intro hb W hW; have m1 := rej_wrap hb; go_simp; with_reducible rfl)
  simp only [Act.put, List.setIfInBounds_toArray, List.set_cons_succ, List.set_cons_zero]
  refine flow_gop (v := ?_) rfl rfl ?_ ?_; rotate_left; (intro hb W hW; unfold Gives; go_simp; (with_reducible refine (allWithin_b _ ls _ _ W (HL.out.keep hW.below)).mono ?_); rintro e W' ⟨rfl, hb3⟩; first | (refine ⟨?_, Since.trans hW hb3⟩; with_reducible rfl) | (subst hb3; refine ⟨?_, hW⟩; with_reducible rfl))
  simp only [Act.put, List.setIfInBounds_toArray, List.set_cons_succ, List.set_cons_zero]
  refine flow_gval (v := ?_) rfl rfl ?_ ?_; rotate_left; (intro hb W hW; go_simp; with_reducible rfl)
  simp only [Act.put, List.setIfInBounds_toArray, List.set_cons_succ, List.set_cons_zero]
  first | refine flow_or rfl rfl ?_ | (refine flow_val (v := ?_) rfl ?_ ?_; rotate_left; (intro W hW; go_simp; with_reducible rfl))
  simp only [Act.put, List.setIfInBounds_toArray, List.set_cons_succ, List.set_cons_zero]
  intro W hW
  cases hg : (!netOk n || !inB 3 40 m || ((ls.length : Int) != (n.ends.length : Int)) || !allB ls 0 (m - 1))
  · have hr : fnExactRejectModulo_r1 n m ls = true := by
      simp only [Bool.or_eq_false_iff, Bool.not_eq_false', bne_eq_false_iff_eq] at hg
      simp [fnExactRejectModulo_r1, hg.1.1.1, hg.1.1.2, hg.1.2, show ls.all (inB 0 (m - 1)) = true from hg.2]
    have Hr := Lib.hid hr
    have hd := Lib.hid (show fnExactRejectModulo_d n m ls = keptB (rejNode n m ls) (upto ls.length) by simp [fnExactRejectModulo_d, hr])
    have hl40 : ls.length ≤ 1000000 := rej_len hr
    clear hg hr
    go_wp2_with fail
    refine (moduloVerifier_any _ _ _ n m W (H.out.keep hW.below)).mono ?_
    rintro e W2 ⟨rfl, hW2⟩
    unfold modF
    have hsW2 : Since W W2 := by rw [hW2]; exact since_alloc _ (since_alloc _ (since_refl _))
    have s0 := have_cell (show W2.cell? ⟨W.heap.size, 0, none⟩ = some (.slice A n.ends.length c) by rw [hW2]; simp)
    have s1 := have_cell (show W2.cell? ⟨W.heap.size, 1, none⟩ = some (.slice A2 n.ids.length c2) by rw [hW2]; simp)
    have s2 := have_cell (show W2.cell? ⟨W.heap.size, 2, none⟩ = some (.slice A3 n.inputs.length c3) by rw [hW2]; simp)
    have s3 := have_cell (show W2.cell? ⟨W.heap.size + 1, 0, none⟩ = some (.int .i64 m) by rw [hW2]; simp)
    have hs2 := hW.after hsW2
    have HS := Lib.hid (And.intro s0 (And.intro s1 (And.intro s2 s3)))
    have Hs2 := Lib.hid hs2
    have q10 := lift_cell p10 hs2
    clear hW2 hsW2 s0 s1 s2 s3 hW hs2 p00 p01 p02 p10
    go_wp2_with fail
    obtain ⟨wA, hwA⟩ : ∃ wA, wA = W2.alloc (.cells #[.func (.func 115) #[] #[.pointer (some ⟨W.heap.size, 0, none⟩), .pointer (some ⟨W.heap.size + 1, 0, none⟩)]] 86) := ⟨_, rfl⟩
    rw [← hwA]
    have hsA : Since W2 wA := by rw [hwA]; exact since_alloc _ (since_refl _)
    have hac : wA.cell? ⟨W2.heap.size, 0, none⟩ = some (modF W.heap.size) := by rw [hwA]; simp [modF]
    have HsA := Lib.hid hsA
    have Hac := Lib.hid hac
    have Hq := Lib.hid (lift_cell q10 hsA)
    clear hwA hsA hac q10
    refine (numbersTo_any ls.length hl40 wA).mono ?_
    rintro e W3 ⟨u3, rfl, ho3, hb3⟩
    have HP : Hid (PredOn wA 73 #[.pointer (some ⟨W2.heap.size, 0, none⟩), .pointer (some ⟨w.heap.size + 1, 0, none⟩)] (rejNode n m ls) (upto ls.length)) := by
      intro x hx X hX
      obtain ⟨k, hk, rfl⟩ := List.mem_map.1 hx
      have hk' := List.mem_range.1 hk
      obtain ⟨es, l, hes, hkl, hle, hin, hm1, hm2', hl1, hl2, hxs, hrj, hme⟩ := rej_at Hr.out hk'
      have hX2 : Since W2 X := HsA.out.after hX
      have := rej1_any (.slice A n.ends.length c) (.slice A2 n.ids.length c2) (.slice A3 n.inputs.length c3) (.slice AL ls.length cL) n m ls k es l W.heap.size W2.heap.size (w.heap.size + 1) X (H.out.keep (Hs2.out.after hX2).below) (HL.out.keep (Hs2.out.after hX2).below) hes hle hin hxs hm1 hm2' hkl hl1 hl2 (HS.out.1 X hX2) (HS.out.2.1 X hX2) (HS.out.2.2.1 X hX2) (HS.out.2.2.2 X hX2) (bc hX Hac.out) (Hq.out X hX)
      rw [hme, ← hrj] at this
      exact this
    have Ho3 := Lib.hid ho3
    have Hs3 : Hid (Since wA W3) := hb3
    clear ho3 hb3
    go_wp2_with fail
    refine (deleteFunc_any _ (upto ls.length) _ _ (rejNode n m ls) _ wA Ho3.out Hs3.out (by rw [upto_len]; omega) rej1_enters HP.out).mono ?_
    rintro e W4 ⟨u4, rfl, ho4, hs4⟩
    have Ho4 := Lib.hid ho4
    have Hs4 := Lib.hid hs4
    clear ho4 hs4
    go_wp2
    go_ret2
    refine ⟨_, congrArg (fun b => Ending.returned (.tuple #[_, .bool b])) Hr.out.symm, by rw [hd.out]; exact Ho4.out.mono (Nat.le_trans Hb0.out.size (Since.below (Hs2.out.after HsA.out)).size), Since.after Hb0.out (Hs2.out.after (HsA.out.after Hs4.out))⟩
  · have hr : fnExactRejectModulo_r1 n m ls = false := by
      simp only [Bool.or_eq_true, Bool.not_eq_true', bne_iff_ne, ne_eq] at hg
      rcases hg with ((hg | hg) | hg) | hg
      · simp [fnExactRejectModulo_r1, hg]
      · simp [fnExactRejectModulo_r1, hg]
      · simp [fnExactRejectModulo_r1, hg]
      · simp [fnExactRejectModulo_r1, show ls.all (inB 0 (m - 1)) = false from hg]
    have hd : fnExactRejectModulo_d n m ls = [] := by simp [fnExactRejectModulo_d, hr]
    have Hr := Lib.hid hr
    have Hd := Lib.hid hd
    have HW := Lib.hid hW
    clear hg hr hd hW
    go_wp2
    go_ret2
    exact ⟨_, congrArg (fun b => Ending.returned (.tuple #[_, .bool b])) Hr.out.symm, by rw [Hd.out]; exact own_nil _ _, Since.after Hb0.out HW.out⟩
theorem fnExactRejectModulo_dl (n : Net) (m : Int) (ls : List Int) (_ : szNet n ≤ 1048576) (hb : ls.length ≤ 1048576) : (fnExactRejectModulo_d n m ls).length ≤ 4611686018427387904 := by
  unfold fnExactRejectModulo_d
  split
  · have := kept_le (rejNode n m ls) (upto ls.length)
    rw [upto_len] at this
    omega
  · simp
end Go.Proofs.Ytaplbmgnfdikdaa
