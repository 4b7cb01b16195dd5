import Derived.Test.YthgbobikbdklhaaNetOwn
namespace Go.Proofs.Ythgbobikbdklhaa
open Go.RowKit
theorem OwnE.cells {w : World} {base g c n : Nat} {es : List (Int × Int)} {S : List Nat} (h : OwnE w base (.slice (some ⟨g, 0, none⟩) n c) es S) {k : Nat} {x : Int × Int} (hx : es[k]? = some x) :
    w.cell? ⟨g, k * 2, none⟩ = some (.int .i64 x.1) ∧ w.cell? ⟨g, k * 2 + 1, none⟩ = some (.int .i64 x.2) ∧ w.frozen? ⟨g, k * 2, none⟩ = false ∧ w.frozen? ⟨g, k * 2 + 1, none⟩ = false := by
  obtain ⟨h, _⟩ := h
  have hn := ownsRow_len h
  subst hn
  have := lt_of_get hx
  exact ⟨by rw [h.cellAt (cap := c) _ (by omega)]; exact (encE_get hx).1, by rw [h.cellAt (cap := c) _ (by omega)]; exact (encE_get hx).2, h.frozenAt _, h.frozenAt _⟩
theorem OwnE.set {w : World} {base g c n : Nat} {es : List (Int × Int)} {S : List Nat} (h : OwnE w base (.slice (some ⟨g, 0, none⟩) n c) es S) {k : Nat} (hk : k < es.length) (x : Int × Int) :
    OwnE ((w.setCell ⟨g, k * 2, none⟩ (.int .i64 x.1)).setCell ⟨g, k * 2 + 1, none⟩ (.int .i64 x.2)) base (.slice (some ⟨g, 0, none⟩) n c) (es.set k x) S := by
  obtain ⟨h, hS⟩ := h
  have hn := ownsRow_len h
  subst hn
  have h1 := (h.stored (k * 2) (.int .i64 x.1)).1
  have h2 := (h1.stored (k * 2 + 1) (.int .i64 x.2)).1
  rw [encE_set x hk] at h2
  refine ⟨?_, hS⟩
  rw [List.length_set]
  exact h2
theorem OwnE.len {w : World} {base : Nat} {A : Option Addr} {n c : Nat} {es : List (Int × Int)} {S : List Nat} (h : OwnE w base (.slice A n c) es S) : n = es.length := by
  rcases ownsRow_cases h.1 with ⟨h1, h0⟩ | ⟨g, c, h1, _⟩
  · cases h1; omega
  · cases h1; rfl
theorem OwnEE.len {w : World} {base : Nat} {A : Option Addr} {n c : Nat} {es : List (List (Int × Int))} {S : List Nat} (h : OwnEE w base (.slice A n c) es S) : n = es.length := by
  obtain ⟨vs, Ss, h1, _⟩ := h
  rcases ownsRow_cases h1 with ⟨h1, h0⟩ | ⟨g, c, h1, _⟩
  · cases h1; omega
  · cases h1; rfl
set_option maxHeartbeats 400000 in
theorem markEndS_any (v : Value) (es : List (Int × Int)) (k : Nat) (w : World) (base : Nat) (S : List Nat) (h : OwnE w base v es S) (hl : k + 2 * es.length ≤ 4611686018427387904) :
    Calls Try.prog 55 #[v, .int .i64 k] w fun e w' => e = .returned (.int .i64 ((k + 2 * es.length : Nat) : Int)) ∧ OwnE w' base v (mkE k es.length) S ∧ Only S w w' := by
  rcases ownsRow_cases h.1 with ⟨rfl, h0⟩ | ⟨g, c, rfl, hb1, hb2, hb3, hb4⟩
  · obtain rfl : es = [] := List.eq_nil_of_length_eq_zero h0
    go_enter Try.func55, Try.ntmps55
    go_wp2
    go_loop [1, 5] (fun m i => m = .int .i64 k ∧ i = .int .i64 0) (fun _ _ => 0)
    case atStart => exact ⟨rfl, rfl⟩
    case round =>
      obtain ⟨rfl, rfl⟩ := hrel
      go_wp2
      go_ret
      exact ⟨ret_int (by simp), h, Only.refl _ _⟩
  · have hgS : g ∈ S := by rw [h.2]; simp [Value.ownBlock]
    have Ho := Lib.hid h
    have HgS := Lib.hid hgS
    clear h hgS
    unfold maxLen at hb4
    go_enter Try.func55, Try.ntmps55
    go_wp2
    go_loopw [1, 5] (fun m i wr => ∃ j : Nat, j ≤ es.length ∧ i = .int .i64 j ∧ m = .int .i64 ((k + 2 * j : Nat) : Int) ∧ OwnE wr base (.slice (some ⟨g, 0, none⟩) es.length c) (mkE k j ++ es.drop j) S ∧ Only S w wr) (fun _ i _ => es.length - (intOf i).toNat)
    case atStart => exact ⟨0, Nat.zero_le _, rfl, rfl, by simpa [mkE] using Ho.out, Only.refl _ _⟩
    case round =>
      obtain ⟨j, hj, rfl, rfl, ho, hg⟩ := hrel
      by_cases hlt : j < es.length
      · obtain ⟨y, hy⟩ := getx (mkE k j ++ es.drop j) j (by simp [mkE_len]; omega)
        obtain ⟨c1, c2, f1, f2⟩ := ho.cells hy
        have Ho1 := Lib.hid ho
        have Hg := Lib.hid hg
        clear hy ho hg
        go_wp2
        go_roundw
        case rel =>
          refine ⟨j + 1, by omega, by go_num, by go_num, ?_, (Hg.out.setCell (.inl HgS.out) _).setCell (.inl HgS.out) _⟩
          have := Ho1.out.set (k := j) (by simp [mkE_len]; omega) (((k + 2 * j : Nat) : Int), ((k + 2 * j + 1 : Nat) : Int))
          rw [mkE_set _ _ _ hlt] at this
          simpa using this
        case measure => simp [intOf]; omega
      · obtain rfl : j = es.length := by omega
        have Ho1 := Lib.hid ho
        have Hg := Lib.hid hg
        clear ho hg
        go_wp2
        go_ret
        exact ⟨ret_int (by simp), by have := Ho1.out; rwa [List.drop_length, List.append_nil] at this, Hg.out⟩
theorem heldEndS_any (v : Value) (k n : Nat) (w : World) (h : EndS w v (mkE k n)) (hl : k + 2 * n ≤ 4611686018427387904) :
    Calls Try.prog 60 #[v, .int .i64 k] w fun e w' => e = .returned (.int .i64 ((k + 2 * n : Nat) : Int)) ∧ w = w' := by
  obtain ⟨A, c, rfl, hlc, hm, hA⟩ := h
  rw [mkE_len] at hlc ⊢
  unfold maxLen at hm
  have HA := Lib.hid hA
  clear hA
  go_enter Try.func60, Try.ntmps60
  go_wp2
  go_loop [1, 5] (fun m i => ∃ j : Nat, j ≤ n ∧ i = .int .i64 j ∧ m = .int .i64 ((k + 2 * j : Nat) : Int)) (fun _ i => n - (intOf i).toNat)
  case atStart => exact ⟨0, Nat.zero_le _, rfl, rfl⟩
  case round =>
    obtain ⟨j, hj, rfl, rfl⟩ := hrel
    by_cases hlt : j < n
    · obtain ⟨b, off, rfl, hc1, hc2⟩ := HA.out j _ (mkE_get hlt)
      go_wp2
      go_round
      case rel => exact ⟨j + 1, by omega, by go_num, by go_num⟩
      case measure => simp [intOf]; omega
    · obtain rfl : j = n := by omega
      go_wp2
      go_ret
      exact ⟨ret_int (by simp), rfl⟩
theorem mkEE_set (a ess : List (List (Int × Int))) (j : Nat) (y : List (Int × Int)) (hl : a.length = j) (h : j < ess.length) : (a ++ ess.drop j).set j y = (a ++ [y]) ++ ess.drop (j + 1) := by
  rw [List.set_append_right _ _ (by omega), hl, Nat.sub_self, List.drop_eq_getElem_cons h, List.set_cons_zero, List.append_assoc]
  rfl
set_option maxHeartbeats 400000 in
theorem markEndSS_any (v : Value) (ess : List (List (Int × Int))) (k : Nat) (w : World) (base : Nat) (S : List Nat) (h : OwnEE w base v ess S) (hl : k + cntEE ess ≤ 4611686018427387904) :
    Calls Try.prog 34 #[v, .int .i64 k] w fun e w' => e = .returned (.int .i64 ((k + cntEE ess : Nat) : Int)) ∧ OwnEE w' base v (mkEE k ess) S ∧ Only S w w' := by
  rcases (show _ ∨ _ by obtain ⟨vs, Ss, h1, _⟩ := h; exact ownsRow_cases h1) with ⟨rfl, h0⟩ | ⟨g, c, rfl, hb1, hb2, hb3, hb4⟩
  · obtain rfl : ess = [] := List.eq_nil_of_length_eq_zero h0
    go_enter Try.func34, Try.ntmps34
    go_wp2
    go_loop [1, 5] (fun m i => m = .int .i64 k ∧ i = .int .i64 0) (fun _ _ => 0)
    case atStart => exact ⟨rfl, rfl⟩
    case round =>
      obtain ⟨rfl, rfl⟩ := hrel
      go_wp2
      go_ret
      exact ⟨ret_int (by simp [cntEE]), h, Only.refl _ _⟩
  · have Ho := Lib.hid h
    clear h
    unfold maxLen at hb4
    go_enter Try.func34, Try.ntmps34
    go_wp2
    go_loopw [1, 5] (fun m i wr => ∃ j : Nat, j ≤ ess.length ∧ i = .int .i64 j ∧ m = .int .i64 ((k + cntEE (ess.take j) : Nat) : Int) ∧ OwnEE wr base (.slice (some ⟨g, 0, none⟩) ess.length c) (mkEE k (ess.take j) ++ ess.drop j) S ∧ Only S w wr) (fun _ i _ => ess.length - (intOf i).toNat)
    case atStart => exact ⟨0, Nat.zero_le _, rfl, rfl, by simpa [mkEE] using Ho.out, Only.refl _ _⟩
    case round =>
      obtain ⟨j, hj, rfl, rfl, ho, hg⟩ := hrel
      have hct := cntEE_take ess j
      by_cases hlt : j < ess.length
      · obtain ⟨es, hes⟩ := getx ess j hlt
        have hct2 := cntEE_take ess (j + 1)
        rw [take_snoc hes, cntEE_append] at hct2
        simp only [cntEE] at hct2
        have hml : (mkEE k (ess.take j)).length = j := by rw [mkEE_len]; simp; omega
        have hy : (mkEE k (ess.take j) ++ ess.drop j)[j]? = some es := by
          rw [List.getElem?_append_right (by omega), hml, Nat.sub_self, List.getElem?_drop]; simpa using hes
        obtain ⟨u, T, hc1, hR, hTS, hback⟩ := OwnRows.touch lawE ho hy
        have Hs := Lib.hid hback
        have HR := Lib.hid hR
        have HTS := Lib.hid hTS
        have Hg := Lib.hid hg
        have Hes := Lib.hid hes
        have Hml := Lib.hid hml
        obtain ⟨A1, n1, z1, rfl⟩ := lawE.one hR
        clear hy ho hg hR hback hes hml hTS
        obtain ⟨cn, hcn⟩ : ∃ cn, cntEE (ess.take j) = cn := ⟨_, rfl⟩
        rw [hcn] at hct2 ⊢
        have Hcn := Lib.hid hcn
        clear hcn hct
        go_wp2_with fail
        refine (markEndS_any _ es (k + cn) _ base T (by exact HR.out) (by omega)).mono ?_
        rintro e w1 ⟨rfl, ho1, hon⟩
        have Hon := Lib.hid (Hg.out.trans (hon.mono HTS.out))
        have Hrow := Lib.hid (Hs.out _ w1 ho1 hon)
        clear ho1 hon
        go_wp2
        go_roundw
        case rel =>
          refine ⟨j + 1, by omega, by go_num, ?_, ?_, Hon.out⟩
          · rw [take_snoc Hes.out, cntEE_append, Hcn.out]
            congr 1
            simp only [cntEE]
            omega
          · rw [take_snoc Hes.out, mkEE_append, Hcn.out]
            have := Hrow.out
            rw [mkEE_set _ _ _ _ Hml.out hlt] at this
            exact this
        case measure => simp [intOf]; omega
      · obtain rfl : j = ess.length := by omega
        have Ho1 := Lib.hid ho
        have Hg := Lib.hid hg
        clear ho hg
        go_wp2
        go_ret
        exact ⟨ret_int (by simp), by have := Ho1.out; rwa [List.drop_length, List.append_nil, List.take_length] at this, Hg.out⟩
theorem heldEndSS_any (v : Value) (ess : List (List (Int × Int))) (k : Nat) (w : World) (h : EndSS w v (mkEE k ess)) (hl : k + cntEE ess ≤ 4611686018427387904) :
    Calls Try.prog 45 #[v, .int .i64 k] w fun e w' => e = .returned (.int .i64 ((k + cntEE ess : Nat) : Int)) ∧ w = w' := by
  obtain ⟨A, c, rfl, hlc, hm, hA⟩ := h
  rw [mkEE_len] at hlc ⊢
  unfold maxLen at hm
  have HA := Lib.hid hA
  clear hA
  go_enter Try.func45, Try.ntmps45
  go_wp2
  go_loop [1, 5] (fun m i => ∃ j : Nat, j ≤ ess.length ∧ i = .int .i64 j ∧ m = .int .i64 ((k + cntEE (ess.take j) : Nat) : Int)) (fun _ i => ess.length - (intOf i).toNat)
  case atStart => exact ⟨0, Nat.zero_le _, rfl, rfl⟩
  case round =>
    obtain ⟨j, hj, rfl, rfl⟩ := hrel
    by_cases hlt : j < ess.length
    · obtain ⟨es, hes⟩ := getx ess j hlt
      have hct2 := cntEE_take ess (j + 1)
      rw [take_snoc hes, cntEE_append] at hct2
      simp only [cntEE] at hct2
      have hy : (mkEE k ess)[j]? = some (mkE (k + cntEE (ess.take j)) es.length) := by
        conv => lhs; rw [← List.take_append_drop j ess, mkEE_append]
        rw [List.getElem?_append_right (by rw [mkEE_len]; simp; omega), mkEE_len]
        obtain ⟨hj', rfl⟩ := List.getElem?_eq_some_iff.1 hes
        rw [List.drop_eq_getElem_cons hj', List.length_take, Nat.min_eq_left (by omega), Nat.sub_self]
        rfl
      obtain ⟨b, off, u, rfl, hc1, hr⟩ := HA.out j _ hy
      have Hr := Lib.hid hr
      have Hes := Lib.hid hes
      obtain ⟨A1, z1, rfl, _⟩ := hr
      clear hy hes
      obtain ⟨cn, hcn⟩ : ∃ cn, cntEE (ess.take j) = cn := ⟨_, rfl⟩
      rw [hcn] at hct2 hc1 ⊢
      have Hcn := Lib.hid hcn
      have Hr2 := Lib.hid (show EndS w (Value.slice A1 (mkE (k + cn) es.length).length z1) (mkE (k + cn) es.length) by have := Hr.out; rwa [hcn] at this)
      clear hcn Hr
      go_wp2_with fail
      refine (heldEndS_any _ (k + cn) es.length _ (by exact Hr2.out) (by omega)).mono ?_
      rintro e w1 ⟨rfl, rfl⟩
      go_wp2
      go_round
      case rel =>
        refine ⟨j + 1, by omega, by go_num, ?_⟩
        rw [take_snoc Hes.out, cntEE_append, Hcn.out]
        congr 1
        simp only [cntEE]
        omega
      case measure => simp [intOf]; omega
    · obtain rfl : j = ess.length := by omega
      go_wp2
      go_ret
      exact ⟨ret_int (by simp), rfl⟩
end Go.Proofs.Ythgbobikbdklhaa
