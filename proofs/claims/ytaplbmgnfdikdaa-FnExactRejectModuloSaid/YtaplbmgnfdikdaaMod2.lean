import Derived.Test.YtaplbmgnfdikdaaMod1
namespace Go.Proofs.Ytaplbmgnfdikdaa
open Go.RowKit
set_option maxHeartbeats 4000000 in
theorem mod1_any (ve vi vn vl : Value) (n : Net) (m : Int) (ls : List Int) (k : Nat) (es : List (Int × Int)) (l : Int) (bn bm : Nat) (w : World) (h : NetIn w ve vi vn n) (hl : IntS w vl ls) (hes : n.ends[k]? = some es) (hle : es.length ≤ 6) (hin : ∀ e ∈ es, 0 ≤ e.1 ∧ e.1 < ls.length)
    (hx : ∀ x ∈ nearB ls es, 0 ≤ x ∧ x < m) (hm1 : 3 ≤ m) (hm2 : m ≤ 40) (hk : ls[k]? = some l) (hl1 : 0 ≤ l) (hl2 : l < m)
    (c0 : w.cell? ⟨bn, 0, none⟩ = some ve) (c1 : w.cell? ⟨bn, 1, none⟩ = some vi) (c2 : w.cell? ⟨bn, 2, none⟩ = some vn) (c3 : w.cell? ⟨bm, 0, none⟩ = some (.int .i64 m)) :
    Calls Try.prog 115 #[vl, .int .i64 k, .pointer (some ⟨bn, 0, none⟩), .pointer (some ⟨bm, 0, none⟩)] w fun e w' => e = .returned (.bool (modI m l (nearB ls es))) ∧ Below w.heap.size w w' := by
  have H := Lib.hid h
  have HL := Lib.hid hl
  have Hin := Lib.hid hin
  have Hes := Lib.hid hes
  have Hx := Lib.hid hx
  obtain ⟨_, bl, ol, cl, l', e0, rfl, hkl, hk', -, hd⟩ := lab_at HL.out (x := (k : Int)) (by omega) (by have := lt_of_get hk; omega)
  obtain rfl : k = _ := by exact Int.ofNat.inj e0
  obtain rfl : l = l' := Option.some.inj (hk.symm.trans hk')
  obtain ⟨⟨A, c, rfl, hlc, hm, _⟩, ⟨A2, c2', rfl, _, hm2', _⟩, ⟨A3, c3', rfl, _, hm3', _⟩⟩ := h
  obtain ⟨_, _, hv, hlL, hmL, _⟩ := id hl
  cases hv
  unfold maxLen at hmL hm hm2' hm3'
  have p0 := have_cell c0
  have p1 := have_cell c1
  have p2 := have_cell c2
  have p3 := have_cell c3
  have t0 := have_cell hd
  have hs0 : Since w w := since_refl _
  clear hes hin hd hk hk' e0 hl c0 c1 c2 c3 hx
  go_enter Try.func115, Try.ntmps115
  go_wp2_with fail
  refine (near_any _ _ _ _ n ls k es _ H.out HL.out Hes.out (by omega) Hin.out).mono ?_
  rintro e W1 ⟨u, rfl, ho, hb⟩
  have hs1 : Since w W1 := hb
  have hlen : (nearB ls es).length = es.length := by simp [nearB]
  obtain ⟨A5, z5, hu, _, hz5, hA5⟩ := ho.ints
  rw [hlen] at hu
  subst hu
  unfold maxLen at hz5
  have HA5 := Lib.hid hA5
  have Hlen := Lib.hid hlen
  clear hb ho hs0 hA5 hlen
  go_wp2
  go_loopw [7, 8, 18] (fun c g i wr => ∃ j : Nat, j ≤ es.length ∧ i = .int .i64 j ∧ c = .int .i64 (((nearB ls (es.take j)).countP fun x => (x + 1) % m == l : Nat) : Int) ∧ g = .int .i64 (((nearB ls (es.take j)).countP fun x => x == (l + 1) % m : Nat) : Int) ∧ Since W1 wr) (fun _ _ i _ => es.length - (intOf i).toNat)
  case atStart => exact ⟨0, Nat.zero_le _, rfl, by simp [nearB], by simp [nearB], since_refl _⟩
  case round =>
    obtain ⟨j, hj, rfl, rfl, rfl, hsr⟩ := hrel
    have hcb : ((nearB ls (es.take j)).countP fun x => (x + 1) % m == l) ≤ 6 ∧ ((nearB ls (es.take j)).countP fun x => x == (l + 1) % m) ≤ 6 := by
      have h1 := List.countP_le_length (p := fun x => (x + 1) % m == l) (l := nearB ls (es.take j))
      have h2 := List.countP_le_length (p := fun x => x == (l + 1) % m) (l := nearB ls (es.take j))
      simp [nearB] at h1 h2 ⊢
      omega
    generalize hc : ((nearB ls (es.take j)).countP fun x => (x + 1) % m == l) = c at hcb ⊢
    generalize hg : ((nearB ls (es.take j)).countP fun x => x == (l + 1) % m) = g at hcb ⊢
    obtain ⟨hcb, hgb⟩ := hcb
    have Hc := Lib.hid hc
    have Hg := Lib.hid hg
    clear hc hg
    by_cases hlt : j < es.length
    · obtain ⟨⟨x1, x2⟩, hx⟩ := getx es j hlt
      obtain ⟨y, hy⟩ := getx (nearB ls es) j (by simpa [nearB] using hlt)
      obtain ⟨b1, off1, rfl, hd1⟩ := HA5.out j y hy
      obtain ⟨y0, ym⟩ := Hx.out y (List.mem_of_getElem? hy)
      have e1 : Hid (nearB ls (es.take (j + 1)) = nearB ls (es.take j) ++ [y]) := by
        show _ = _
        have e2 : nearB ls (es.take (j + 1)) = (nearB ls es).take (j + 1) := by simp [nearB, List.map_take]
        have e3 : nearB ls (es.take j) = (nearB ls es).take j := by simp [nearB, List.map_take]
        rw [e2, e3, take_snoc hy]
      have q1 := have_cell hd1
      clear hx hy hd1
      go_upto_region 6 with (fail)
      have q2 := lift_cell q1 hsr
      have q3 := lift_cell p3 (hs1.after hsr)
      have q0 := lift_cell t0 (hs1.after hsr)
      have f1 : ∃ d1 : Bool, ((y + 1) % m == l) = d1 := ⟨_, rfl⟩
      obtain ⟨d1, f1⟩ := f1
      obtain ⟨d2, f2⟩ : ∃ d2 : Bool, (y == (l + 1) % m) = d2 := ⟨_, rfl⟩
      have m1 : IntKind.i64.wrap (y + 1) = y + 1 := wr64 _ (by omega) (by omega)
      have m2 : IntKind.i64.wrap (l + 1) = l + 1 := wr64 _ (by omega) (by omega)
      have m3 : (y + 1).tmod m = (y + 1) % m := Int.tmod_eq_emod_of_nonneg (by omega)
      have m4 : (l + 1).tmod m = (l + 1) % m := Int.tmod_eq_emod_of_nonneg (by omega)
      have m0 : ¬ m = 0 := by omega
      have m5 : IntKind.i64.wrap ((c : Int) + if d1 = true then 1 else 0) = (c : Int) + if d1 = true then 1 else 0 := wr64 _ (by split <;> omega) (by split <;> omega)
      have m6 : IntKind.i64.wrap ((g : Int) + if d2 = true then 1 else 0) = (g : Int) + if d2 = true then 1 else 0 := wr64 _ (by split <;> omega) (by split <;> omega)
      refine wp_region_flow 12 (Since wr) (by kernel_rfl) (by kernel_rfl) (by simp) (since_drew (since_refl _)) ?_
      simp only [List.take_succ_cons, List.take_zero, List.drop_succ_cons, List.drop_zero]
      refine flow_val (v := ?_) rfl ?_ ?_; rotate_left; (intro W hW; go_simp; with_reducible rfl)
      simp only [Act.put, List.setIfInBounds_toArray, List.set_cons_succ, List.set_cons_zero]
      refine flow_val (v := ?_) rfl ?_ ?_; rotate_left; (intro W hW; go_simp; with_reducible rfl)
      simp only [Act.put, List.setIfInBounds_toArray, List.set_cons_succ, List.set_cons_zero]
      refine flow_val (v := ?_) rfl ?_ ?_; rotate_left; (intro W hW; go_simp; with_reducible rfl)
      simp only [Act.put, List.setIfInBounds_toArray, List.set_cons_succ, List.set_cons_zero]
      refine flow_val (v := ?_) rfl ?_ ?_; rotate_left; (intro W hW; go_simp; with_reducible rfl)
      simp only [Act.put, List.setIfInBounds_toArray, List.set_cons_succ, List.set_cons_zero]
      refine flow_val (v := ?_) rfl ?_ ?_; rotate_left; (intro W hW; go_simp; with_reducible rfl)
      simp only [Act.put, List.setIfInBounds_toArray, List.set_cons_succ, List.set_cons_zero]
      refine flow_val (v := ?_) rfl ?_ ?_; rotate_left; (intro W hW; go_simp; with_reducible rfl)
      simp only [Act.put, List.setIfInBounds_toArray, List.set_cons_succ, List.set_cons_zero]
      refine flow_val (v := ?_) rfl ?_ ?_; rotate_left; (intro W hW; go_simp; with_reducible rfl)
      simp only [Act.put, List.setIfInBounds_toArray, List.set_cons_succ, List.set_cons_zero]
      refine flow_val (v := ?_) rfl ?_ ?_; rotate_left; (intro W hW; go_simp; with_reducible rfl)
      simp only [Act.put, List.setIfInBounds_toArray, List.set_cons_succ, List.set_cons_zero]
      refine flow_val (v := ?_) rfl ?_ ?_; rotate_left; (intro W hW; go_simp; with_reducible rfl)
      simp only [Act.put, List.setIfInBounds_toArray, List.set_cons_succ, List.set_cons_zero]
      refine flow_val (v := ?_) rfl ?_ ?_; rotate_left; (intro W hW; go_simp; with_reducible rfl)
      simp only [Act.put, List.setIfInBounds_toArray, List.set_cons_succ, List.set_cons_zero]
      refine flow_op ?_ rfl ?_ ?_; rotate_left; (intro W hW; unfold Gives; go_simp; (with_reducible refine (oneIf_any _ W).mono ?_); rintro e W' ⟨rfl, hb3⟩; first | (refine ⟨?_, Since.trans hW hb3⟩; with_reducible rfl) | (subst hb3; refine ⟨?_, hW⟩; with_reducible rfl))
      simp only [Act.put, List.setIfInBounds_toArray, List.set_cons_succ, List.set_cons_zero]
      refine flow_val (v := ?_) rfl ?_ ?_; rotate_left; (intro W hW; go_simp; with_reducible rfl)
      simp only [Act.put, List.setIfInBounds_toArray, List.set_cons_succ, List.set_cons_zero]
      intro W2 hW2
      go_upto_region 7 with (fail)
      have r3 := lift_cell q3 hW2
      have r0 := lift_cell q0 hW2
      have HW2 := Lib.hid (hsr.after hW2)
      clear q2 q3 q0 hW2
      refine wp_region_flow 12 (Since W2) (by kernel_rfl) (by kernel_rfl) (by simp) (since_drew (since_refl _)) ?_
      simp only [List.take_succ_cons, List.take_zero, List.drop_succ_cons, List.drop_zero]
      refine flow_val (v := ?_) rfl ?_ ?_; rotate_left; (intro W hW; go_simp; with_reducible rfl)
      simp only [Act.put, List.setIfInBounds_toArray, List.set_cons_succ, List.set_cons_zero]
      refine flow_val (v := ?_) rfl ?_ ?_; rotate_left; (intro W hW; go_simp; with_reducible rfl)
      simp only [Act.put, List.setIfInBounds_toArray, List.set_cons_succ, List.set_cons_zero]
      refine flow_val (v := ?_) rfl ?_ ?_; rotate_left; (intro W hW; go_simp; with_reducible rfl)
      simp only [Act.put, List.setIfInBounds_toArray, List.set_cons_succ, List.set_cons_zero]
      refine flow_val (v := ?_) rfl ?_ ?_; rotate_left; (intro W hW; go_simp; with_reducible rfl)
      simp only [Act.put, List.setIfInBounds_toArray, List.set_cons_succ, List.set_cons_zero]
      refine flow_val (v := ?_) rfl ?_ ?_; rotate_left; (intro W hW; go_simp; with_reducible rfl)
      simp only [Act.put, List.setIfInBounds_toArray, List.set_cons_succ, List.set_cons_zero]
      refine flow_val (v := ?_) rfl ?_ ?_; rotate_left; (intro W hW; go_simp; with_reducible rfl)
      simp only [Act.put, List.setIfInBounds_toArray, List.set_cons_succ, List.set_cons_zero]
      refine flow_val (v := ?_) rfl ?_ ?_; rotate_left; (intro W hW; go_simp; with_reducible rfl)
      simp only [Act.put, List.setIfInBounds_toArray, List.set_cons_succ, List.set_cons_zero]
      refine flow_val (v := ?_) rfl ?_ ?_; rotate_left; (intro W hW; go_simp; with_reducible rfl)
      simp only [Act.put, List.setIfInBounds_toArray, List.set_cons_succ, List.set_cons_zero]
      refine flow_val (v := ?_) rfl ?_ ?_; rotate_left; (intro W hW; go_simp; with_reducible rfl)
      simp only [Act.put, List.setIfInBounds_toArray, List.set_cons_succ, List.set_cons_zero]
      refine flow_val (v := ?_) rfl ?_ ?_; rotate_left; (intro W hW; go_simp; with_reducible rfl)
      simp only [Act.put, List.setIfInBounds_toArray, List.set_cons_succ, List.set_cons_zero]
      refine flow_op ?_ rfl ?_ ?_; rotate_left; (intro W hW; unfold Gives; go_simp; (with_reducible refine (oneIf_any _ W).mono ?_); rintro e W' ⟨rfl, hb3⟩; first | (refine ⟨?_, Since.trans hW hb3⟩; with_reducible rfl) | (subst hb3; refine ⟨?_, hW⟩; with_reducible rfl))
      simp only [Act.put, List.setIfInBounds_toArray, List.set_cons_succ, List.set_cons_zero]
      refine flow_val (v := ?_) rfl ?_ ?_; rotate_left; (intro W hW; go_simp; with_reducible rfl)
      simp only [Act.put, List.setIfInBounds_toArray, List.set_cons_succ, List.set_cons_zero]
      intro W3 hW3
      have HW3 := Lib.hid (HW2.out.after hW3)
      have F1 := Lib.hid f1
      have F2 := Lib.hid f2
      clear hW3 f1 f2 m1 m2 m3 m4 m5 m6 r3 r0
      go_wp2
      go_roundw
      case rel => exact ⟨j + 1, by omega, by go_num, by rw [e1.out, countP_snoc, Hc.out, F1.out]; cases d1 <;> simp, by rw [e1.out, countP_snoc, Hg.out, F2.out]; cases d2 <;> simp, HW3.out⟩
      case measure => simp [intOf]; omega
    · obtain rfl : j = es.length := by omega
      have hr : Hid (modI m l (nearB ls es) = (decide (c ≤ 1) && (c + g == es.length) && (c == 1 || l == 0))) := by
        show _ = _
        have h1 := Hc.out
        have h2 := Hg.out
        rw [List.take_length] at h1 h2
        unfold modI
        rw [h1, h2, Hlen.out]
      have q0 := lift_cell t0 (hs1.after hsr)
      have m1 : IntKind.i64.wrap ((c : Int) + g) = (c : Int) + g := wr64 _ (by omega) (by omega)
      go_upto_region 9 with (fail)
      refine wp_region_flow0 22 (Since wr) (since_refl _) ?_
      simp only [List.take_succ_cons, List.take_zero, List.drop_succ_cons, List.drop_zero]
      refine flow_val (v := ?_) rfl ?_ ?_; rotate_left; (intro W hW; go_simp; with_reducible rfl)
      simp only [Act.put, List.setIfInBounds_toArray, List.set_cons_succ, List.set_cons_zero]
      refine flow_val (v := ?_) rfl ?_ ?_; rotate_left; (intro W hW; go_simp; with_reducible rfl)
      simp only [Act.put, List.setIfInBounds_toArray, List.set_cons_succ, List.set_cons_zero]
      refine flow_val (v := ?_) rfl ?_ ?_; rotate_left; (intro W hW; go_simp; with_reducible rfl)
      simp only [Act.put, List.setIfInBounds_toArray, List.set_cons_succ, List.set_cons_zero]
      refine flow_gval (v := ?_) rfl rfl ?_ ?_; rotate_left; (intro hb W hW; go_simp; with_reducible rfl)
      simp only [Act.put, List.setIfInBounds_toArray, List.set_cons_succ, List.set_cons_zero]
      refine flow_gval (v := ?_) rfl rfl ?_ ?_; rotate_left; (intro hb W hW; go_simp; with_reducible rfl)
      simp only [Act.put, List.setIfInBounds_toArray, List.set_cons_succ, List.set_cons_zero]
      refine flow_gval (v := ?_) rfl rfl ?_ ?_; rotate_left; (intro hb W hW; go_simp; with_reducible rfl)
      simp only [Act.put, List.setIfInBounds_toArray, List.set_cons_succ, List.set_cons_zero]
      refine flow_gval (v := ?_) rfl rfl ?_ ?_; rotate_left; (intro hb W hW; go_simp; with_reducible rfl)
      simp only [Act.put, List.setIfInBounds_toArray, List.set_cons_succ, List.set_cons_zero]
      refine flow_gval (v := ?_) rfl rfl ?_ ?_; rotate_left; (intro hb W hW; go_simp; with_reducible rfl)
      simp only [Act.put, List.setIfInBounds_toArray, List.set_cons_succ, List.set_cons_zero]
      refine flow_gval (v := ?_) rfl rfl ?_ ?_; rotate_left; (intro hb W hW; go_simp; with_reducible rfl)
      simp only [Act.put, List.setIfInBounds_toArray, List.set_cons_succ, List.set_cons_zero]
      first | refine flow_and rfl rfl ?_ | (refine flow_val (v := ?_) rfl ?_ ?_; rotate_left; (intro W hW; go_simp; with_reducible rfl))
      simp only [Act.put, List.setIfInBounds_toArray, List.set_cons_succ, List.set_cons_zero]
      refine flow_val (v := ?_) rfl ?_ ?_; rotate_left; (intro W hW; go_simp; with_reducible rfl)
      simp only [Act.put, List.setIfInBounds_toArray, List.set_cons_succ, List.set_cons_zero]
      refine flow_gval (v := ?_) rfl rfl ?_ ?_; rotate_left; (intro hb W hW; go_simp; with_reducible rfl)
      simp only [Act.put, List.setIfInBounds_toArray, List.set_cons_succ, List.set_cons_zero]
      refine flow_gval (v := ?_) rfl rfl ?_ ?_; rotate_left; (intro hb W hW; go_simp; with_reducible rfl)
      simp only [Act.put, List.setIfInBounds_toArray, List.set_cons_succ, List.set_cons_zero]
      refine flow_gval (v := ?_) rfl rfl ?_ ?_; rotate_left; (intro hb W hW; go_simp; with_reducible rfl)
      simp only [Act.put, List.setIfInBounds_toArray, List.set_cons_succ, List.set_cons_zero]
      refine flow_gval2 (v := ?_) rfl rfl ?_ ?_; rotate_left; (intro hb hb2 W hW; go_simp; with_reducible rfl)
      simp only [Act.put, List.setIfInBounds_toArray, List.set_cons_succ, List.set_cons_zero]
      refine flow_gval2 (v := ?_) rfl rfl ?_ ?_; rotate_left; (intro hb hb2 W hW; go_simp; with_reducible rfl)
      simp only [Act.put, List.setIfInBounds_toArray, List.set_cons_succ, List.set_cons_zero]
      refine flow_gval2 (v := ?_) rfl rfl ?_ ?_; rotate_left; (intro hb hb2 W hW; go_simp; with_reducible rfl)
      simp only [Act.put, List.setIfInBounds_toArray, List.set_cons_succ, List.set_cons_zero]
      refine flow_gval2 (v := ?_) rfl rfl ?_ ?_; rotate_left; (intro hb hb2 W hW; go_simp; with_reducible rfl)
      simp only [Act.put, List.setIfInBounds_toArray, List.set_cons_succ, List.set_cons_zero]
      refine flow_gval2 (v := ?_) rfl rfl ?_ ?_; rotate_left; (intro hb hb2 W hW; go_simp; with_reducible rfl)
      simp only [Act.put, List.setIfInBounds_toArray, List.set_cons_succ, List.set_cons_zero]
      refine flow_gor rfl rfl rfl ?_
      simp only [Act.put, List.setIfInBounds_toArray, List.set_cons_succ, List.set_cons_zero]
      first | refine flow_and rfl rfl ?_ | (refine flow_val (v := ?_) rfl ?_ ?_; rotate_left; (intro W hW; go_simp; with_reducible rfl))
      simp only [Act.put, List.setIfInBounds_toArray, List.set_cons_succ, List.set_cons_zero]
      refine flow_val (v := ?_) rfl ?_ ?_; rotate_left; (intro W hW; go_simp; with_reducible rfl)
      simp only [Act.put, List.setIfInBounds_toArray, List.set_cons_succ, List.set_cons_zero]
      intro W2 hW2
      have HW2 := Lib.hid hW2
      clear hW2 m1
      go_wp2
      go_ret
      refine ⟨ret_bool ?_, hs1.after (hsr.after HW2.out)⟩
      rw [hr.out]
      have e1 : decide ((c : Int) ≤ 1) = decide (c ≤ 1) := by apply decide_eq_decide.2; omega
      have e2 : ((c : Int) + g == (es.length : Int)) = (c + g == es.length) := by rw [Bool.eq_iff_iff]; simp; omega
      try rw [e1, e2, cast_beq1]
end Go.Proofs.Ytaplbmgnfdikdaa
