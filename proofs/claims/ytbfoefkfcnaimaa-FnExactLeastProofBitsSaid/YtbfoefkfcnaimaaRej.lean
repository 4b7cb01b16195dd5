import Derived.Test.YtbfoefkfcnaimaaMod1
import Derived.Test.YtbfoefkfcnaimaaDel
import Derived.Test.YtbfoefkfcnaimaaLawKit
import Derived.Laws.EntriesVeiled
namespace Go.Proofs.Ytbfoefkfcnaimaa
open Go.RowKit
set_option maxHeartbeats 4000000 in
theorem mod1_any (ve vi vn vl : Value) (n : Net) (m : Int) (ls : List Int) (k : Nat) (es : List (Int × Int)) (l : Int) (bn bm : Nat) (w : World) (h : NetIn w ve vi vn n) (hl : IntS w vl ls) (hes : n.ends[k]? = some es) (hle : es.length ≤ 6) (hin : ∀ e ∈ es, 0 ≤ e.1 ∧ e.1 < ls.length)
    (hx : ∀ x ∈ nearB ls es, 0 ≤ x ∧ x < m) (hm1 : 3 ≤ m) (hm2 : m ≤ 40) (hk : ls[k]? = some l) (hl1 : 0 ≤ l) (hl2 : l < m)
    (c0 : w.cell? ⟨bn, 0, none⟩ = some ve) (c1 : w.cell? ⟨bn, 1, none⟩ = some vi) (c2 : w.cell? ⟨bn, 2, none⟩ = some vn) (c3 : w.cell? ⟨bm, 0, none⟩ = some (.int .i64 m)) :
    Calls Try.prog 134 #[vl, .int .i64 k, .pointer (some ⟨bn, 0, none⟩), .pointer (some ⟨bm, 0, none⟩)] w fun e w' => e = .returned (.bool (modI m l (nearB ls es))) ∧ Below w.heap.size w w' := by
  have H := Lib.hid h
  have HL := Lib.hid hl
  have Hin := Lib.hid hin
  have Hes := Lib.hid hes
  have Hx := Lib.hid hx
  obtain ⟨_, bl, ol, cl, l', e0, rfl, hkl, hk', -, hd⟩ := lab_at HL.out (x := (k : Int)) (by omega) (by have := lt_of_get hk; omega)
  obtain rfl : k = _ := by exact Int.ofNat.inj e0
  obtain rfl : l = l' := Option.some.inj (hk.symm.trans hk')
  obtain ⟨⟨A, c, rfl, hlc, hm, _⟩, ⟨A2, c2', rfl, _, hm2', _⟩, ⟨A3, c3', rfl, _, hm3', _⟩⟩ := h
  obtain ⟨_, _, hv, hlL, hmL, _⟩ := id hl
  cases hv
  unfold maxLen at hmL hm hm2' hm3'
  have p0 := have_cell c0
  have p1 := have_cell c1
  have p2 := have_cell c2
  have p3 := have_cell c3
  have t0 := have_cell hd
  have hs0 : Since w w := since_refl _
  clear hes hin hd hk hk' e0 hl c0 c1 c2 c3 hx
  go_enter Try.func134, Try.ntmps134
  go_wp2_with fail
  refine (near_any _ _ _ _ n ls k es _ H.out HL.out Hes.out (by omega) Hin.out).mono ?_
  rintro e W1 ⟨u, rfl, ho, hb⟩
  have hs1 : Since w W1 := hb
  have hlen : (nearB ls es).length = es.length := by simp [nearB]
  obtain ⟨A5, z5, hu, _, hz5, hA5⟩ := ho.ints
  rw [hlen] at hu
  subst hu
  unfold maxLen at hz5
  have HA5 := Lib.hid hA5
  have Hlen := Lib.hid hlen
  clear hb ho hs0 hA5 hlen
  go_wp2
  go_loopw [7, 8, 18] (fun c g i wr => ∃ j : Nat, j ≤ es.length ∧ i = .int .i64 j ∧ c = .int .i64 (((nearB ls (es.take j)).countP fun x => (x + 1) % m == l : Nat) : Int) ∧ g = .int .i64 (((nearB ls (es.take j)).countP fun x => x == (l + 1) % m : Nat) : Int) ∧ Since W1 wr) (fun _ _ i _ => es.length - (intOf i).toNat)
  case atStart => exact ⟨0, Nat.zero_le _, rfl, by simp [nearB], by simp [nearB], since_refl _⟩
  case round =>
    obtain ⟨j, hj, rfl, rfl, rfl, hsr⟩ := hrel
    have hcb : ((nearB ls (es.take j)).countP fun x => (x + 1) % m == l) ≤ 6 ∧ ((nearB ls (es.take j)).countP fun x => x == (l + 1) % m) ≤ 6 := by
      have h1 := List.countP_le_length (p := fun x => (x + 1) % m == l) (l := nearB ls (es.take j))
      have h2 := List.countP_le_length (p := fun x => x == (l + 1) % m) (l := nearB ls (es.take j))
      simp [nearB] at h1 h2 ⊢
      omega
    generalize hc : ((nearB ls (es.take j)).countP fun x => (x + 1) % m == l) = c at hcb ⊢
    generalize hg : ((nearB ls (es.take j)).countP fun x => x == (l + 1) % m) = g at hcb ⊢
    obtain ⟨hcb, hgb⟩ := hcb
    have Hc := Lib.hid hc
    have Hg := Lib.hid hg
    clear hc hg
    by_cases hlt : j < es.length
    · obtain ⟨⟨x1, x2⟩, hx⟩ := getx es j hlt
      obtain ⟨y, hy⟩ := getx (nearB ls es) j (by simpa [nearB] using hlt)
      obtain ⟨b1, off1, rfl, hd1⟩ := HA5.out j y hy
      obtain ⟨y0, ym⟩ := Hx.out y (List.mem_of_getElem? hy)
      have e1 : Hid (nearB ls (es.take (j + 1)) = nearB ls (es.take j) ++ [y]) := by
        show _ = _
        have e2 : nearB ls (es.take (j + 1)) = (nearB ls es).take (j + 1) := by simp [nearB, List.map_take]
        have e3 : nearB ls (es.take j) = (nearB ls es).take j := by simp [nearB, List.map_take]
        rw [e2, e3, take_snoc hy]
      have q1 := have_cell hd1
      clear hx hy hd1
      go_upto_region 6 with (fail)
      have q2 := lift_cell q1 hsr
      have q3 := lift_cell p3 (hs1.after hsr)
      have q0 := lift_cell t0 (hs1.after hsr)
      have f1 : ∃ d1 : Bool, ((y + 1) % m == l) = d1 := ⟨_, rfl⟩
      obtain ⟨d1, f1⟩ := f1
      obtain ⟨d2, f2⟩ : ∃ d2 : Bool, (y == (l + 1) % m) = d2 := ⟨_, rfl⟩
      have m1 : IntKind.i64.wrap (y + 1) = y + 1 := wr64 _ (by omega) (by omega)
      have m2 : IntKind.i64.wrap (l + 1) = l + 1 := wr64 _ (by omega) (by omega)
      have m3 : (y + 1).tmod m = (y + 1) % m := Int.tmod_eq_emod_of_nonneg (by omega)
      have m4 : (l + 1).tmod m = (l + 1) % m := Int.tmod_eq_emod_of_nonneg (by omega)
      have m0 : ¬ m = 0 := by omega
      have m5 : IntKind.i64.wrap ((c : Int) + if d1 = true then 1 else 0) = (c : Int) + if d1 = true then 1 else 0 := wr64 _ (by split <;> omega) (by split <;> omega)
      have m6 : IntKind.i64.wrap ((g : Int) + if d2 = true then 1 else 0) = (g : Int) + if d2 = true then 1 else 0 := wr64 _ (by split <;> omega) (by split <;> omega)
      refine wp_region_flow 12 (Since wr) (by kernel_rfl) (by kernel_rfl) (by simp) (since_drew (since_refl _)) ?_
      simp only [List.take_succ_cons, List.take_zero, List.drop_succ_cons, List.drop_zero]
      refine flow_val (v := ?_) rfl ?_ ?_; rotate_left; (intro W hW; go_simp; with_reducible rfl)
      simp only [Act.put, List.setIfInBounds_toArray, List.set_cons_succ, List.set_cons_zero]
      refine flow_val (v := ?_) rfl ?_ ?_; rotate_left; (intro W hW; go_simp; with_reducible rfl)
      simp only [Act.put, List.setIfInBounds_toArray, List.set_cons_succ, List.set_cons_zero]
      refine flow_val (v := ?_) rfl ?_ ?_; rotate_left; (intro W hW; go_simp; with_reducible rfl)
      simp only [Act.put, List.setIfInBounds_toArray, List.set_cons_succ, List.set_cons_zero]
      refine flow_val (v := ?_) rfl ?_ ?_; rotate_left; (intro W hW; go_simp; with_reducible rfl)
      simp only [Act.put, List.setIfInBounds_toArray, List.set_cons_succ, List.set_cons_zero]
      refine flow_val (v := ?_) rfl ?_ ?_; rotate_left; (intro W hW; go_simp; with_reducible rfl)
      simp only [Act.put, List.setIfInBounds_toArray, List.set_cons_succ, List.set_cons_zero]
      refine flow_val (v := ?_) rfl ?_ ?_; rotate_left; (intro W hW; go_simp; with_reducible rfl)
      simp only [Act.put, List.setIfInBounds_toArray, List.set_cons_succ, List.set_cons_zero]
      refine flow_val (v := ?_) rfl ?_ ?_; rotate_left; (intro W hW; go_simp; with_reducible rfl)
      simp only [Act.put, List.setIfInBounds_toArray, List.set_cons_succ, List.set_cons_zero]
      refine flow_val (v := ?_) rfl ?_ ?_; rotate_left; (intro W hW; go_simp; with_reducible rfl)
      simp only [Act.put, List.setIfInBounds_toArray, List.set_cons_succ, List.set_cons_zero]
      refine flow_val (v := ?_) rfl ?_ ?_; rotate_left; (intro W hW; go_simp; with_reducible rfl)
      simp only [Act.put, List.setIfInBounds_toArray, List.set_cons_succ, List.set_cons_zero]
      refine flow_val (v := ?_) rfl ?_ ?_; rotate_left; (intro W hW; go_simp; with_reducible rfl)
      simp only [Act.put, List.setIfInBounds_toArray, List.set_cons_succ, List.set_cons_zero]
      refine flow_op ?_ rfl ?_ ?_; rotate_left; (intro W hW; unfold Gives; go_simp; (with_reducible refine (oneIf_any _ W).mono ?_); rintro e W' ⟨rfl, hb3⟩; first | (refine ⟨?_, Since.trans hW hb3⟩; with_reducible rfl) | (subst hb3; refine ⟨?_, hW⟩; with_reducible rfl))
      simp only [Act.put, List.setIfInBounds_toArray, List.set_cons_succ, List.set_cons_zero]
      refine flow_val (v := ?_) rfl ?_ ?_; rotate_left; (intro W hW; go_simp; with_reducible rfl)
      simp only [Act.put, List.setIfInBounds_toArray, List.set_cons_succ, List.set_cons_zero]
      intro W2 hW2
      go_upto_region 7 with (fail)
      have r3 := lift_cell q3 hW2
      have r0 := lift_cell q0 hW2
      have HW2 := Lib.hid (hsr.after hW2)
      clear q2 q3 q0 hW2
      refine wp_region_flow 12 (Since W2) (by kernel_rfl) (by kernel_rfl) (by simp) (since_drew (since_refl _)) ?_
      simp only [List.take_succ_cons, List.take_zero, List.drop_succ_cons, List.drop_zero]
      refine flow_val (v := ?_) rfl ?_ ?_; rotate_left; (intro W hW; go_simp; with_reducible rfl)
      simp only [Act.put, List.setIfInBounds_toArray, List.set_cons_succ, List.set_cons_zero]
      refine flow_val (v := ?_) rfl ?_ ?_; rotate_left; (intro W hW; go_simp; with_reducible rfl)
      simp only [Act.put, List.setIfInBounds_toArray, List.set_cons_succ, List.set_cons_zero]
      refine flow_val (v := ?_) rfl ?_ ?_; rotate_left; (intro W hW; go_simp; with_reducible rfl)
      simp only [Act.put, List.setIfInBounds_toArray, List.set_cons_succ, List.set_cons_zero]
      refine flow_val (v := ?_) rfl ?_ ?_; rotate_left; (intro W hW; go_simp; with_reducible rfl)
      simp only [Act.put, List.setIfInBounds_toArray, List.set_cons_succ, List.set_cons_zero]
      refine flow_val (v := ?_) rfl ?_ ?_; rotate_left; (intro W hW; go_simp; with_reducible rfl)
      simp only [Act.put, List.setIfInBounds_toArray, List.set_cons_succ, List.set_cons_zero]
      refine flow_val (v := ?_) rfl ?_ ?_; rotate_left; (intro W hW; go_simp; with_reducible rfl)
      simp only [Act.put, List.setIfInBounds_toArray, List.set_cons_succ, List.set_cons_zero]
      refine flow_val (v := ?_) rfl ?_ ?_; rotate_left; (intro W hW; go_simp; with_reducible rfl)
      simp only [Act.put, List.setIfInBounds_toArray, List.set_cons_succ, List.set_cons_zero]
      refine flow_val (v := ?_) rfl ?_ ?_; rotate_left; (intro W hW; go_simp; with_reducible rfl)
      simp only [Act.put, List.setIfInBounds_toArray, List.set_cons_succ, List.set_cons_zero]
      refine flow_val (v := ?_) rfl ?_ ?_; rotate_left; (intro W hW; go_simp; with_reducible rfl)
      simp only [Act.put, List.setIfInBounds_toArray, List.set_cons_succ, List.set_cons_zero]
      refine flow_val (v := ?_) rfl ?_ ?_; rotate_left; (intro W hW; go_simp; with_reducible rfl)
      simp only [Act.put, List.setIfInBounds_toArray, List.set_cons_succ, List.set_cons_zero]
      refine flow_op ?_ rfl ?_ ?_; rotate_left; (intro W hW; unfold Gives; go_simp; (with_reducible refine (oneIf_any _ W).mono ?_); rintro e W' ⟨rfl, hb3⟩; first | (refine ⟨?_, Since.trans hW hb3⟩; with_reducible rfl) | (subst hb3; refine ⟨?_, hW⟩; with_reducible rfl))
      simp only [Act.put, List.setIfInBounds_toArray, List.set_cons_succ, List.set_cons_zero]
      refine flow_val (v := ?_) rfl ?_ ?_; rotate_left; (intro W hW; go_simp; with_reducible rfl)
      simp only [Act.put, List.setIfInBounds_toArray, List.set_cons_succ, List.set_cons_zero]
      intro W3 hW3
      have HW3 := Lib.hid (HW2.out.after hW3)
      have F1 := Lib.hid f1
      have F2 := Lib.hid f2
      clear hW3 f1 f2 m1 m2 m3 m4 m5 m6 r3 r0
      go_wp2
      go_roundw
      case rel => exact ⟨j + 1, by omega, by go_num, by rw [e1.out, countP_snoc, Hc.out, F1.out]; cases d1 <;> simp, by rw [e1.out, countP_snoc, Hg.out, F2.out]; cases d2 <;> simp, HW3.out⟩
      case measure => simp [intOf]; omega
    · obtain rfl : j = es.length := by omega
      have hr : Hid (modI m l (nearB ls es) = (decide (c ≤ 1) && (c + g == es.length) && (c == 1 || l == 0))) := by
        show _ = _
        have h1 := Hc.out
        have h2 := Hg.out
        rw [List.take_length] at h1 h2
        unfold modI
        rw [h1, h2, Hlen.out]
      have q0 := lift_cell t0 (hs1.after hsr)
      have m1 : IntKind.i64.wrap ((c : Int) + g) = (c : Int) + g := wr64 _ (by omega) (by omega)
      go_upto_region 9 with (fail)
      refine wp_region_flow0 22 (Since wr) (since_refl _) ?_
      simp only [List.take_succ_cons, List.take_zero, List.drop_succ_cons, List.drop_zero]
      refine flow_val (v := ?_) rfl ?_ ?_; rotate_left; (intro W hW; go_simp; with_reducible rfl)
      simp only [Act.put, List.setIfInBounds_toArray, List.set_cons_succ, List.set_cons_zero]
      refine flow_val (v := ?_) rfl ?_ ?_; rotate_left; (intro W hW; go_simp; with_reducible rfl)
      simp only [Act.put, List.setIfInBounds_toArray, List.set_cons_succ, List.set_cons_zero]
      refine flow_val (v := ?_) rfl ?_ ?_; rotate_left; (intro W hW; go_simp; with_reducible rfl)
      simp only [Act.put, List.setIfInBounds_toArray, List.set_cons_succ, List.set_cons_zero]
      refine flow_gval (v := ?_) rfl rfl ?_ ?_; rotate_left; (intro hb W hW; go_simp; with_reducible rfl)
      simp only [Act.put, List.setIfInBounds_toArray, List.set_cons_succ, List.set_cons_zero]
      refine flow_gval (v := ?_) rfl rfl ?_ ?_; rotate_left; (intro hb W hW; go_simp; with_reducible rfl)
      simp only [Act.put, List.setIfInBounds_toArray, List.set_cons_succ, List.set_cons_zero]
      refine flow_gval (v := ?_) rfl rfl ?_ ?_; rotate_left; (intro hb W hW; go_simp; with_reducible rfl)
      simp only [Act.put, List.setIfInBounds_toArray, List.set_cons_succ, List.set_cons_zero]
      refine flow_gval (v := ?_) rfl rfl ?_ ?_; rotate_left; (intro hb W hW; go_simp; with_reducible rfl)
      simp only [Act.put, List.setIfInBounds_toArray, List.set_cons_succ, List.set_cons_zero]
      refine flow_gval (v := ?_) rfl rfl ?_ ?_; rotate_left; (intro hb W hW; go_simp; with_reducible rfl)
      simp only [Act.put, List.setIfInBounds_toArray, List.set_cons_succ, List.set_cons_zero]
      refine flow_gval (v := ?_) rfl rfl ?_ ?_; rotate_left; (intro hb W hW; go_simp; with_reducible rfl)
      simp only [Act.put, List.setIfInBounds_toArray, List.set_cons_succ, List.set_cons_zero]
      first | refine flow_and rfl rfl ?_ | (refine flow_val (v := ?_) rfl ?_ ?_; rotate_left; (intro W hW; go_simp; with_reducible rfl))
      simp only [Act.put, List.setIfInBounds_toArray, List.set_cons_succ, List.set_cons_zero]
      refine flow_val (v := ?_) rfl ?_ ?_; rotate_left; (intro W hW; go_simp; with_reducible rfl)
      simp only [Act.put, List.setIfInBounds_toArray, List.set_cons_succ, List.set_cons_zero]
      refine flow_gval (v := ?_) rfl rfl ?_ ?_; rotate_left; (intro hb W hW; go_simp; with_reducible rfl)
      simp only [Act.put, List.setIfInBounds_toArray, List.set_cons_succ, List.set_cons_zero]
      refine flow_gval (v := ?_) rfl rfl ?_ ?_; rotate_left; (intro hb W hW; go_simp; with_reducible rfl)
      simp only [Act.put, List.setIfInBounds_toArray, List.set_cons_succ, List.set_cons_zero]
      refine flow_gval (v := ?_) rfl rfl ?_ ?_; rotate_left; (intro hb W hW; go_simp; with_reducible rfl)
      simp only [Act.put, List.setIfInBounds_toArray, List.set_cons_succ, List.set_cons_zero]
      refine flow_gval2 (v := ?_) rfl rfl ?_ ?_; rotate_left; (intro hb hb2 W hW; go_simp; with_reducible rfl)
      simp only [Act.put, List.setIfInBounds_toArray, List.set_cons_succ, List.set_cons_zero]
      refine flow_gval2 (v := ?_) rfl rfl ?_ ?_; rotate_left; (intro hb hb2 W hW; go_simp; with_reducible rfl)
      simp only [Act.put, List.setIfInBounds_toArray, List.set_cons_succ, List.set_cons_zero]
      refine flow_gval2 (v := ?_) rfl rfl ?_ ?_; rotate_left; (intro hb hb2 W hW; go_simp; with_reducible rfl)
      simp only [Act.put, List.setIfInBounds_toArray, List.set_cons_succ, List.set_cons_zero]
      refine flow_gval2 (v := ?_) rfl rfl ?_ ?_; rotate_left; (intro hb hb2 W hW; go_simp; with_reducible rfl)
      simp only [Act.put, List.setIfInBounds_toArray, List.set_cons_succ, List.set_cons_zero]
      refine flow_gval2 (v := ?_) rfl rfl ?_ ?_; rotate_left; (intro hb hb2 W hW; go_simp; with_reducible rfl)
      simp only [Act.put, List.setIfInBounds_toArray, List.set_cons_succ, List.set_cons_zero]
      refine flow_gor rfl rfl rfl ?_
      simp only [Act.put, List.setIfInBounds_toArray, List.set_cons_succ, List.set_cons_zero]
      first | refine flow_and rfl rfl ?_ | (refine flow_val (v := ?_) rfl ?_ ?_; rotate_left; (intro W hW; go_simp; with_reducible rfl))
      simp only [Act.put, List.setIfInBounds_toArray, List.set_cons_succ, List.set_cons_zero]
      refine flow_val (v := ?_) rfl ?_ ?_; rotate_left; (intro W hW; go_simp; with_reducible rfl)
      simp only [Act.put, List.setIfInBounds_toArray, List.set_cons_succ, List.set_cons_zero]
      intro W2 hW2
      have HW2 := Lib.hid hW2
      clear hW2 m1
      go_wp2
      go_ret
      refine ⟨ret_bool ?_, hs1.after (hsr.after HW2.out)⟩
      rw [hr.out]
      have e1 : decide ((c : Int) ≤ 1) = decide (c ≤ 1) := by apply decide_eq_decide.2; omega
      have e2 : ((c : Int) + g == (es.length : Int)) = (c + g == es.length) := by rw [Bool.eq_iff_iff]; simp; omega
      try rw [e1, e2, cast_beq1]
end Go.Proofs.Ytbfoefkfcnaimaa
namespace Go.Proofs.Ytbfoefkfcnaimaa
open Go.RowKit
def rejNode (n : Net) (m : Int) (ls : List Int) (v : Int) : Bool := modS m (ls.getD v.toNat 0) (nearB ls (n.ends.getD v.toNat []))
def fnExactRejectModulo_r1 (n : Net) (m : Int) (ls : List Int) : Bool := netOk n && inB 3 40 m && ((ls.length : Int) == (n.ends.length : Int)) && ls.all (inB 0 (m - 1))
def fnExactRejectModulo_d (n : Net) (m : Int) (ls : List Int) : List Int := if fnExactRejectModulo_r1 n m ls then keptB (rejNode n m ls) (upto ls.length) else []
/-- what a node of good labels has -/
theorem rej_at {n : Net} {m : Int} {ls : List Int} (h : fnExactRejectModulo_r1 n m ls = true) {k : Nat} (hk : k < ls.length) :
    ∃ es l, n.ends[k]? = some es ∧ ls[k]? = some l ∧ es.length ≤ 6 ∧ (∀ e ∈ es, 0 ≤ e.1 ∧ e.1 < ls.length) ∧ 3 ≤ m ∧ m ≤ 40 ∧ 0 ≤ l ∧ l < m ∧ (∀ x ∈ nearB ls es, 0 ≤ x ∧ x < m) ∧ rejNode n m ls k = modS m l (nearB ls es) ∧ modI m l (nearB ls es) = modS m l (nearB ls es) := by
  unfold fnExactRejectModulo_r1 at h
  simp only [Bool.and_eq_true, beq_iff_eq] at h
  obtain ⟨⟨⟨h1, h2⟩, h3⟩, h4⟩ := h
  have hm := inB_iff.1 h2
  have hl : ls.length = n.ends.length := by omega
  obtain ⟨es, hes⟩ := getx n.ends k (by omega)
  obtain ⟨l, hl'⟩ := getx ls k hk
  obtain ⟨r1, r2⟩ := netOk_row h1 hes
  rw [List.all_eq_true] at h4
  have ha : ∀ x ∈ ls, 0 ≤ x ∧ x < m := fun x hx => by have := inB_iff.1 (h4 x hx); omega
  have hll := ha l (List.mem_of_getElem? hl')
  have hin : ∀ e ∈ es, 0 ≤ e.1 ∧ e.1 < ls.length := fun e he => by rw [hl]; exact r2 e he
  have hx : ∀ x ∈ nearB ls es, 0 ≤ x ∧ x < m := fun x hx => by
    obtain ⟨e, he, rfl⟩ := List.mem_map.1 hx
    obtain ⟨i1, i2⟩ := hin e he
    have : e.1.toNat < ls.length := by omega
    rw [List.getD_eq_getElem?_getD, List.getElem?_eq_getElem this]
    exact ha _ (List.getElem_mem this)
  exact ⟨es, l, hes, hl', r1, hin, hm.1, hm.2, hll.1, hll.2, hx, by simp [rejNode, hes, hl'], mod_eq hm.1 hll.1 hll.2 hx⟩
theorem kept_snoc (p : Int → Bool) (k : Nat) : keptB p (upto (k + 1)) = keptB p (upto k) ++ if p k then [] else [(k : Int)] := by
  rw [upto_snoc]
  unfold keptB
  rw [List.filter_append]
  congr 1
  cases h : p (k : Int) <;> simp [h]
theorem atNumber_b (m : Int) (w : World) : Calls Try.prog 81 #[.int .i64 m] w fun e w' => e = .returned (.bool (inB 3 40 m)) ∧ w = w' := by
  go_enter Try.func81, Try.ntmps81
  go_wp2_with (go_at_call 61; refine (l1In_b _ _ _ _).mono ?_; rintro e w' ⟨rfl, rfl⟩)
  go_ret
  exact ⟨rfl, rfl⟩
def allB (ls : List Int) (lo hi : Int) : Bool := ls.all (inB lo hi)
theorem l1All_b (v : Value) (xs : List Int) (lo hi : Int) (w : World) (h : IntS w v xs) :
    Calls Try.prog 106 #[v, .int .i64 lo, .int .i64 hi] w fun e w' => e = .returned (.bool (allB xs lo hi)) ∧ w = w' := l1All_any v xs lo hi w h
theorem allWithin_b (v : Value) (xs : List Int) (lo hi : Int) (w : World) (h : IntS w v xs) :
    Calls Try.prog 108 #[v, .int .i64 lo, .int .i64 hi] w fun e w' => e = .returned (.bool (allB xs lo hi)) ∧ Below w.heap.size w w' := allWithin_any v xs lo hi w h
theorem rej_wrap {a c : Bool} {m : Int} (h : (a || !inB 3 40 m || c) = false) : IntKind.i64.wrap (m - 1) = m - 1 := by
  simp only [Bool.or_eq_false_iff, Bool.not_eq_false'] at h
  have := inB_iff.1 h.1.2
  exact wr64 _ (by omega) (by omega)
end Go.Proofs.Ytbfoefkfcnaimaa
namespace Go.Proofs.Ytbfoefkfcnaimaa
open Go.RowKit
theorem mod1_enters : ∀ args w, (callFunc 134 args).run Try.prog w = .ok (.enter 134 args) w := enters_of Try.func134 (by kernel_rfl) rfl
/-- the verifier of remainders as a value -/
def modF (b : Nat) : Value := .func (.func 134) #[] #[.pointer (some ⟨b, 0, none⟩), .pointer (some ⟨b + 1, 0, none⟩)]
set_option maxHeartbeats 2000000 in
theorem moduloVerifier_any (ve vi vn : Value) (n : Net) (m : Int) (w : World) (h : NetIn w ve vi vn n) :
    Calls Try.prog 83 #[.agg #[ve, vi, vn], .int .i64 m] w fun e w' => e = .returned (modF w.heap.size) ∧ w' = (w.alloc (.cells #[ve, vi, vn] 31)).alloc (.cells #[.int .i64 m] 3) := by
  obtain ⟨⟨A, c, rfl, hlc, hm, _⟩, ⟨A2, c2', rfl, _, hm2', _⟩, ⟨A3, c3', rfl, _, hm3', _⟩⟩ := h
  go_enter Try.func83, Try.ntmps83
  go_wp2
  go_ret
  exact ⟨rfl, rfl⟩
theorem rej_len {n : Net} {m : Int} {ls : List Int} (h : fnExactRejectModulo_r1 n m ls = true) : ls.length ≤ 1000000 := by
  unfold fnExactRejectModulo_r1 at h
  simp only [Bool.and_eq_true, beq_iff_eq] at h
  have := netOk_len h.1.1.1
  omega
theorem fnExactRejectModulo_dl (n : Net) (m : Int) (ls : List Int) (_ : szNet n ≤ 1048576) (hb : ls.length ≤ 1048576) : (fnExactRejectModulo_d n m ls).length ≤ 4611686018427387904 := by
  unfold fnExactRejectModulo_d
  split
  · have := kept_le (rejNode n m ls) (upto ls.length)
    rw [upto_len] at this
    omega
  · simp
end Go.Proofs.Ytbfoefkfcnaimaa
