import Derived.Test.YtaplbmgnfdikdaaMod2
import Derived.Test.YtaplbmgnfdikdaaDel
import Derived.Test.YtaplbmgnfdikdaaLawKit
import Derived.Laws.EntriesVeiled
namespace Go.Proofs.Ytaplbmgnfdikdaa
open Go.RowKit
def rejNode (n : Net) (m : Int) (ls : List Int) (v : Int) : Bool := modS m (ls.getD v.toNat 0) (nearB ls (n.ends.getD v.toNat []))
def fnExactRejectModulo_r1 (n : Net) (m : Int) (ls : List Int) : Bool := netOk n && inB 3 40 m && ((ls.length : Int) == (n.ends.length : Int)) && ls.all (inB 0 (m - 1))
def fnExactRejectModulo_d (n : Net) (m : Int) (ls : List Int) : List Int := if fnExactRejectModulo_r1 n m ls then keptB (rejNode n m ls) (upto ls.length) else []
/-- what a node of good labels has -/
theorem rej_at {n : Net} {m : Int} {ls : List Int} (h : fnExactRejectModulo_r1 n m ls = true) {k : Nat} (hk : k < ls.length) :
    ∃ es l, n.ends[k]? = some es ∧ ls[k]? = some l ∧ es.length ≤ 6 ∧ (∀ e ∈ es, 0 ≤ e.1 ∧ e.1 < ls.length) ∧ 3 ≤ m ∧ m ≤ 40 ∧ 0 ≤ l ∧ l < m ∧ (∀ x ∈ nearB ls es, 0 ≤ x ∧ x < m) ∧ rejNode n m ls k = modS m l (nearB ls es) ∧ modI m l (nearB ls es) = modS m l (nearB ls es) := by
  unfold fnExactRejectModulo_r1 at h
  simp only [Bool.and_eq_true, beq_iff_eq] at h
  obtain ⟨⟨⟨h1, h2⟩, h3⟩, h4⟩ := h
  have hm := inB_iff.1 h2
  have hl : ls.length = n.ends.length := by omega
  obtain ⟨es, hes⟩ := getx n.ends k (by omega)
  obtain ⟨l, hl'⟩ := getx ls k hk
  obtain ⟨r1, r2⟩ := netOk_row h1 hes
  rw [List.all_eq_true] at h4
  have ha : ∀ x ∈ ls, 0 ≤ x ∧ x < m := fun x hx => by have := inB_iff.1 (h4 x hx); omega
  have hll := ha l (List.mem_of_getElem? hl')
  have hin : ∀ e ∈ es, 0 ≤ e.1 ∧ e.1 < ls.length := fun e he => by rw [hl]; exact r2 e he
  have hx : ∀ x ∈ nearB ls es, 0 ≤ x ∧ x < m := fun x hx => by
    obtain ⟨e, he, rfl⟩ := List.mem_map.1 hx
    obtain ⟨i1, i2⟩ := hin e he
    have : e.1.toNat < ls.length := by omega
    rw [List.getD_eq_getElem?_getD, List.getElem?_eq_getElem this]
    exact ha _ (List.getElem_mem this)
  exact ⟨es, l, hes, hl', r1, hin, hm.1, hm.2, hll.1, hll.2, hx, by simp [rejNode, hes, hl'], mod_eq hm.1 hll.1 hll.2 hx⟩
theorem kept_snoc (p : Int → Bool) (k : Nat) : keptB p (upto (k + 1)) = keptB p (upto k) ++ if p k then [] else [(k : Int)] := by
  rw [upto_snoc]
  unfold keptB
  rw [List.filter_append]
  congr 1
  cases h : p (k : Int) <;> simp [h]
theorem atNumber_b (m : Int) (w : World) : Calls Try.prog 65 #[.int .i64 m] w fun e w' => e = .returned (.bool (inB 3 40 m)) ∧ w = w' := by
  go_enter Try.func65, Try.ntmps65
  go_wp2_with (go_at_call 87; refine (l1In_b _ _ _ _).mono ?_; rintro e w' ⟨rfl, rfl⟩)
  go_ret
  exact ⟨rfl, rfl⟩
def allB (ls : List Int) (lo hi : Int) : Bool := ls.all (inB lo hi)
theorem l1All_b (v : Value) (xs : List Int) (lo hi : Int) (w : World) (h : IntS w v xs) :
    Calls Try.prog 66 #[v, .int .i64 lo, .int .i64 hi] w fun e w' => e = .returned (.bool (allB xs lo hi)) ∧ w = w' := l1All_any v xs lo hi w h
theorem allWithin_b (v : Value) (xs : List Int) (lo hi : Int) (w : World) (h : IntS w v xs) :
    Calls Try.prog 69 #[v, .int .i64 lo, .int .i64 hi] w fun e w' => e = .returned (.bool (allB xs lo hi)) ∧ Below w.heap.size w w' := allWithin_any v xs lo hi w h
theorem rej_wrap {a c : Bool} {m : Int} (h : (a || !inB 3 40 m || c) = false) : IntKind.i64.wrap (m - 1) = m - 1 := by
  simp only [Bool.or_eq_false_iff, Bool.not_eq_false'] at h
  have := inB_iff.1 h.1.2
  exact wr64 _ (by omega) (by omega)
set_option maxRecDepth 100000 in
set_option maxHeartbeats 8000000 in
theorem fnExactRejectModulo_spec (ve vi vn : Value) (n : Net) (m : Int) (vl : Value) (ls : List Int) (w : World) (h : NetIn w ve vi vn n) (_ : -9223372036854775808 ≤ m ∧ m ≤ 9223372036854775807) (hl : IntS w vl ls) (hsz : szNet n ≤ 1048576) (hbig : ls.length ≤ 1048576) :
    Calls Try.prog 29 #[.agg #[ve, vi, vn], .int .i64 m, vl] w fun e w' => ∃ u, e = .returned (.tuple #[u, .bool (fnExactRejectModulo_r1 n m ls)]) ∧ Own w' w.heap.size u (fnExactRejectModulo_d n m ls) ∧ Below w.heap.size w w' := by
  obtain ⟨w0, hw0⟩ : ∃ w0, w0 = (w).alloc (.cells #[ve, vi, vn] 31) := ⟨_, rfl⟩
  have hb0 : Below w.heap.size w w0 := by rw [hw0]; exact ((Below.refl _ _).alloc (by simp) _)
  have H := Lib.hid (h.keep hb0)
  obtain ⟨h1, h2, h3⟩ := h.keep hb0
  obtain ⟨A, c, rfl, hlc, hm, hA⟩ := h1
  obtain ⟨A2, c2, rfl, _, hm2, _⟩ := h2
  obtain ⟨A3, c3, rfl, _, hm3, _⟩ := h3
  unfold maxLen at hm hm2 hm3
  have p00 : ∀ W, Since w0 W → W.cell? ⟨w.heap.size, 0, none⟩ = some (.slice A n.ends.length c) := have_cell (by rw [hw0]; simp)
  have p01 : ∀ W, Since w0 W → W.cell? ⟨w.heap.size, 1, none⟩ = some (.slice A2 n.ids.length c2) := have_cell (by rw [hw0]; simp)
  have p02 : ∀ W, Since w0 W → W.cell? ⟨w.heap.size, 2, none⟩ = some (.slice A3 n.inputs.length c3) := have_cell (by rw [hw0]; simp)
  have Hb0 := Lib.hid hb0
  have Hw0 := Lib.hid hw0
  have HA := Lib.hid hA
  clear hA h
  clear hb0 hw0
  have HL := Lib.hid (hl.keep Hb0.out)
  obtain ⟨AL, cL, rfl, hlL, hmL, _⟩ := hl
  unfold maxLen at hmL
  go_enter Try.func29, Try.ntmps29
  go_upto_region 1 with (fail)
  rw [← Hw0.out]
  refine wp_region_flow0 23 (Since w0) (since_refl _) ?_
  simp only [List.take_succ_cons, List.take_zero, List.drop_succ_cons, List.drop_zero]
  refine flow_val (v := ?_) rfl ?_ ?_; rotate_left; (intro W hW; go_simp; with_reducible rfl)
  simp only [Act.put, List.setIfInBounds_toArray, List.set_cons_succ, List.set_cons_zero]
  refine flow_op ?_ rfl ?_ ?_; rotate_left; (intro W hW; unfold Gives; go_simp; (with_reducible refine (neGood_any _ _ _ n W (H.out.keep hW.below)).mono ?_); rintro e W' ⟨rfl, hb3⟩; first | (refine ⟨?_, Since.trans hW hb3⟩; with_reducible rfl) | (subst hb3; refine ⟨?_, hW⟩; with_reducible rfl))
  simp only [Act.put, List.setIfInBounds_toArray, List.set_cons_succ, List.set_cons_zero]
  refine flow_val (v := ?_) rfl ?_ ?_; rotate_left; (intro W hW; go_simp; with_reducible rfl)
  simp only [Act.put, List.setIfInBounds_toArray, List.set_cons_succ, List.set_cons_zero]
  refine flow_val (v := ?_) rfl ?_ ?_; rotate_left; (intro W hW; go_simp; with_reducible rfl)
  simp only [Act.put, List.setIfInBounds_toArray, List.set_cons_succ, List.set_cons_zero]
  refine flow_gval (v := ?_) rfl rfl ?_ ?_; rotate_left; (intro hb W hW; go_simp; with_reducible rfl)
  simp only [Act.put, List.setIfInBounds_toArray, List.set_cons_succ, List.set_cons_zero]
  refine flow_gop (v := ?_) rfl rfl ?_ ?_; rotate_left; (intro hb W hW; unfold Gives; go_simp; (with_reducible refine (atNumber_b _ W).mono ?_); rintro e W' ⟨rfl, hb3⟩; first | (refine ⟨?_, Since.trans hW hb3⟩; with_reducible rfl) | (subst hb3; refine ⟨?_, hW⟩; with_reducible rfl))
  simp only [Act.put, List.setIfInBounds_toArray, List.set_cons_succ, List.set_cons_zero]
  refine flow_gval (v := ?_) rfl rfl ?_ ?_; rotate_left; (intro hb W hW; go_simp; with_reducible rfl)
  simp only [Act.put, List.setIfInBounds_toArray, List.set_cons_succ, List.set_cons_zero]
  first | refine flow_or rfl rfl ?_ | (refine flow_val (v := ?_) rfl ?_ ?_; rotate_left; (intro W hW; go_simp; with_reducible rfl))
  simp only [Act.put, List.setIfInBounds_toArray, List.set_cons_succ, List.set_cons_zero]
  refine flow_val (v := ?_) rfl ?_ ?_; rotate_left; (intro W hW; go_simp; with_reducible rfl)
  simp only [Act.put, List.setIfInBounds_toArray, List.set_cons_succ, List.set_cons_zero]
  refine flow_gval (v := ?_) rfl rfl ?_ ?_; rotate_left; (intro hb W hW; go_simp; with_reducible rfl)
  simp only [Act.put, List.setIfInBounds_toArray, List.set_cons_succ, List.set_cons_zero]
  refine flow_gval (v := ?_) rfl rfl ?_ ?_; rotate_left; (intro hb W hW; go_simp; with_reducible rfl)
  simp only [Act.put, List.setIfInBounds_toArray, List.set_cons_succ, List.set_cons_zero]
  refine flow_gval (v := ?_) rfl rfl ?_ ?_; rotate_left; (intro hb W hW; go_simp; with_reducible rfl)
  simp only [Act.put, List.setIfInBounds_toArray, List.set_cons_succ, List.set_cons_zero]
  refine flow_gval (v := ?_) rfl rfl ?_ ?_; rotate_left; (intro hb W hW; go_simp; with_reducible rfl)
  simp only [Act.put, List.setIfInBounds_toArray, List.set_cons_succ, List.set_cons_zero]
  refine flow_gval (v := ?_) rfl rfl ?_ ?_; rotate_left; (intro hb W hW; go_simp; with_reducible rfl)
  simp only [Act.put, List.setIfInBounds_toArray, List.set_cons_succ, List.set_cons_zero]
  refine flow_gval (v := ?_) rfl rfl ?_ ?_; rotate_left; (intro hb W hW; go_simp; with_reducible rfl)
  simp only [Act.put, List.setIfInBounds_toArray, List.set_cons_succ, List.set_cons_zero]
  first | refine flow_or rfl rfl ?_ | (refine flow_val (v := ?_) rfl ?_ ?_; rotate_left; (intro W hW; go_simp; with_reducible rfl))
  simp only [Act.put, List.setIfInBounds_toArray, List.set_cons_succ, List.set_cons_zero]
  refine flow_val (v := ?_) rfl ?_ ?_; rotate_left; (intro W hW; go_simp; with_reducible rfl)
  simp only [Act.put, List.setIfInBounds_toArray, List.set_cons_succ, List.set_cons_zero]
  refine flow_gval (v := ?_) rfl rfl ?_ ?_; rotate_left; (intro hb W hW; go_simp; with_reducible rfl)
  simp only [Act.put, List.setIfInBounds_toArray, List.set_cons_succ, List.set_cons_zero]
  refine flow_gval (v := ?_) rfl rfl ?_ ?_; rotate_left; (intro hb W hW; go_simp; with_reducible rfl)
  simp only [Act.put, List.setIfInBounds_toArray, List.set_cons_succ, List.set_cons_zero]
  refine flow_gval (v := ?_) rfl rfl ?_ ?_; rotate_left; (intro hb W hW; have m1 := rej_wrap hb; go_simp; with_reducible rfl)
  simp only [Act.put, List.setIfInBounds_toArray, List.set_cons_succ, List.set_cons_zero]
  refine flow_gop (v := ?_) rfl rfl ?_ ?_; rotate_left; (intro hb W hW; unfold Gives; go_simp; (with_reducible refine (l1All_b _ ls _ _ W (HL.out.keep hW.below)).mono ?_); rintro e W' ⟨rfl, hb3⟩; first | (refine ⟨?_, Since.trans hW hb3⟩; with_reducible rfl) | (subst hb3; refine ⟨?_, hW⟩; with_reducible rfl))
  simp only [Act.put, List.setIfInBounds_toArray, List.set_cons_succ, List.set_cons_zero]
  refine flow_gval (v := ?_) rfl rfl ?_ ?_; rotate_left; (intro hb W hW; go_simp; with_reducible rfl)
  simp only [Act.put, List.setIfInBounds_toArray, List.set_cons_succ, List.set_cons_zero]
  first | refine flow_or rfl rfl ?_ | (refine flow_val (v := ?_) rfl ?_ ?_; rotate_left; (intro W hW; go_simp; with_reducible rfl))
  simp only [Act.put, List.setIfInBounds_toArray, List.set_cons_succ, List.set_cons_zero]
  intro W hW
  cases hg : (!netOk n || !inB 3 40 m || ((ls.length : Int) != (n.ends.length : Int)) || !allB ls 0 (m - 1))
  · have hr : fnExactRejectModulo_r1 n m ls = true := by
      simp only [Bool.or_eq_false_iff, Bool.not_eq_false', bne_eq_false_iff_eq] at hg
      simp [fnExactRejectModulo_r1, hg.1.1.1, hg.1.1.2, hg.1.2, show ls.all (inB 0 (m - 1)) = true from hg.2]
    have Hr := Lib.hid hr
    have hd := Lib.hid (show fnExactRejectModulo_d n m ls = keptB (rejNode n m ls) (upto ls.length) by simp [fnExactRejectModulo_d, hr])
    clear hg hr
    have HW := Lib.hid hW
    go_wp2
    go_loopw [8, 35] (fun u i wr => ∃ k : Nat, k ≤ ls.length ∧ i = .int .i64 k ∧ Own wr w0.heap.size u (keptB (rejNode n m ls) (upto k)) ∧ Since w0 wr) (fun _ i _ => ls.length - (intOf i).toNat)
    case atStart => exact ⟨0, Nat.zero_le _, rfl, by simpa [keptB, upto] using own_nil _ w0.heap.size, HW.out⟩
    case round =>
      obtain ⟨k, hk, rfl, ho, hs⟩ := hrel
      have Ho := Lib.hid ho
      clear ho hW
      by_cases hlt : k < ls.length
      · obtain ⟨es, l, hes, hkl, hle, hin, hm1, hm2', hl1, hl2, hx, hrj, -⟩ := rej_at Hr.out hlt
        have Hrj := Lib.hid hrj
        have Hin := Lib.hid hin
        have Hes := Lib.hid hes
        have Hkl := Lib.hid hkl
        have Hlen : Hid ((keptB (rejNode n m ls) (upto k)).length + 1 ≤ 17592186044416) := by
          have := kept_le (rejNode n m ls) (upto k)
          rw [upto_len] at this
          show _ ≤ _
          omega
        clear hes hkl hin hx hrj
        go_wp2_with fail
        refine (atModulo_any _ _ _ _ n m ls k es l _ (H.out.keep hs.below) (HL.out.keep hs.below) Hes.out hle Hin.out hm1 hm2' Hkl.out hl1 hl2).mono ?_
        rw [← Hrj.out]
        rintro e W2 ⟨rfl, hb2⟩
        have hs2 := Since.trans hs hb2
        have Ho2 := Lib.hid (Ho.out.keep hb2)
        cases hp : rejNode n m ls k
        · have Hp := Lib.hid hp
          clear hs hb2 hp
          go_wp2_with (at_builtin; refine app_int_s rfl _ _ rfl rfl (Ho2.out.since (since_alloc _ (since_refl _))) W2.heap.size k rfl (by simp [go_sem]) Hlen.out (since_alloc _ hs2) ?_; intro g cc w2 ho2 hs3)
          have Ho3 := Lib.hid ho2
          have Hs3 := Lib.hid hs3
          clear ho2 hs3 hs2
          go_wp2
          go_roundw
          case rel => exact ⟨k + 1, by omega, by go_num, by rw [kept_snoc, Hp.out]; exact Ho3.out, Hs3.out⟩
          case measure => simp [intOf]; omega
        · have Hp := Lib.hid hp
          clear hs hb2 hp
          go_wp2
          go_roundw
          case rel => exact ⟨k + 1, by omega, by go_num, by rw [kept_snoc, Hp.out]; simpa using Ho2.out, hs2⟩
          case measure => simp [intOf]; omega
      · obtain rfl : k = ls.length := by omega
        go_wp2
        go_ret2
        exact ⟨_, congrArg (fun b => Ending.returned (.tuple #[_, .bool b])) Hr.out.symm, by rw [hd.out]; exact Ho.out.mono Hb0.out.size, Since.after Hb0.out hs⟩
  · have hr : fnExactRejectModulo_r1 n m ls = false := by
      simp only [Bool.or_eq_true, Bool.not_eq_true', bne_iff_ne, ne_eq] at hg
      rcases hg with ((hg | hg) | hg) | hg
      · simp [fnExactRejectModulo_r1, hg]
      · simp [fnExactRejectModulo_r1, hg]
      · simp [fnExactRejectModulo_r1, hg]
      · simp [fnExactRejectModulo_r1, show ls.all (inB 0 (m - 1)) = false from hg]
    have hd : fnExactRejectModulo_d n m ls = [] := by simp [fnExactRejectModulo_d, hr]
    have Hr := Lib.hid hr
    have Hd := Lib.hid hd
    have HW := Lib.hid hW
    clear hg hr hd hW
    go_wp2
    go_ret2
    exact ⟨_, congrArg (fun b => Ending.returned (.tuple #[_, .bool b])) Hr.out.symm, by rw [Hd.out]; exact own_nil _ _, Since.after Hb0.out HW.out⟩
end Go.Proofs.Ytaplbmgnfdikdaa
