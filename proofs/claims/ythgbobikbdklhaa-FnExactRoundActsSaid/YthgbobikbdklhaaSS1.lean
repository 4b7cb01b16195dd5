import Derived.Test.YthgbobikbdklhaaNetLaw
import Derived.Test.YthgbobikbdklhaaTo
namespace Go.Proofs.Ythgbobikbdklhaa
open Go.RowKit
/-! lists of lists of integers: read, sized, copied, compared, marked, held -/
def IntSS (w : World) (v : Value) (xss : List (List Int)) : Prop :=
  ∃ (A : Option Addr) (c : Nat), v = .slice A xss.length c ∧ xss.length ≤ c ∧ c ≤ maxLen ∧
    (∀ k xs, xss[k]? = some xs → ∃ b off u, A = some ⟨b, off, none⟩ ∧ w.cell? ⟨b, off + k, none⟩ = some u ∧ IntS w u xs)
theorem IntSS.keep {w w' : World} {v : Value} {xs : List (List Int)} (h : IntSS w v xs) (hb : Below w.heap.size w w') : IntSS w' v xs := by
  obtain ⟨A, c, hv, hc, hm, hA⟩ := h
  refine ⟨A, c, hv, hc, hm, fun k x hk => ?_⟩
  obtain ⟨b, off, u, hA', h1, h2⟩ := hA k x hk
  exact ⟨b, off, u, hA', bc hb h1, h2.keep hb⟩
def OwnII : World → Nat → Value → List (List Int) → List Nat → Prop := OwnRows 23 OwnI
theorem lawII : RowLaw OwnII := rows_law _ lawI
theorem OwnI.read {w : World} {base : Nat} {v : Value} {xs : List Int} {S : List Nat} (h : OwnI w base v xs S) : IntS w v xs := h.1.ints
theorem OwnII.read {w : World} {base : Nat} {v : Value} {ess : List (List Int)} {S : List Nat} (h : OwnII w base v ess S) : IntSS w v ess := by
  obtain ⟨vs, Ss, h1, h2, h3, h4, h5⟩ := h
  rcases ownsRow_cases h1 with ⟨rfl, h0⟩ | ⟨g, c, rfl, hb, hg, hc, hm⟩
  · obtain rfl : ess = [] := List.eq_nil_of_length_eq_zero h0
    exact ⟨none, 0, rfl, Nat.le_refl _, Nat.zero_le _, fun k x hk => by simp at hk⟩
  · have hvl : vs.length = ess.length := by simpa using h1.1
    refine ⟨_, c, rfl, hc, hm, fun k x hk => ?_⟩
    have hlt := lt_of_get hk
    obtain ⟨u, hu⟩ := getx vs k (by omega)
    obtain ⟨T, hT⟩ := getx Ss k (by omega)
    exact ⟨g, 0, u, rfl, by rw [Nat.zero_add, h1.cellAt (cap := c) _ (by omega)]; exact hu, OwnI.read (h3 k u x T hu hk hT)⟩
def szR (ess : List (List Int)) : Nat := (ess.map List.length).sum
theorem szR_snoc {ess : List (List Int)} {k : Nat} {es : List Int} (h : ess[k]? = some es) : szR (ess.take (k + 1)) = szR (ess.take k) + es.length := by
  unfold szR
  rw [List.take_add_one, h]; simp
theorem szR_le (ess : List (List Int)) (k : Nat) : szR (ess.take k) ≤ szR ess := by
  unfold szR
  conv => rhs; rw [← List.take_append_drop k ess]
  rw [List.map_append, List.sum_append]; omega
def szII (ess : List (List Int)) : Nat := ess.length + szR ess
theorem rowI_info : (Try.prog.info? 23).map (fun i => (i.zero, i.size, i.bytes)) = some (some (.slice none 0 0), 1, 24) := by kernel_rfl
section
variable {ops : Array Oper} {rest : List Oper} {o : Oper} {a : Act} {Q : Exit → Act → World → Prop}
theorem mk_rowsI (w : World) (hg : o.guard = none) (l c : Operand) (hop : o.op = Op.makeSlice 27 l c) (n : Nat) (hl : a.eval l = .int .i64 (n : Int)) (hc : a.eval c = .int .i64 (n : Int)) (hn : n ≤ 1048576)
    (hK : ∀ w', OwnII w' w.heap.size (.slice (some ⟨w.heap.size, 0, none⟩) n n) (List.replicate n []) [w.heap.size] → Below w.heap.size w w' → wpList Try.prog ops Q rest (a.put o.dst (.slice (some ⟨w.heap.size, 0, none⟩) n n)) w') : wpList Try.prog ops Q (o :: rest) a w := by
  obtain ⟨i0, hi, hz0, hz1, hz2⟩ := info_parts rowI_info
  refine wpList_plain hg fun K hK' => ?_
  have hr := run_make (P := Try.prog) w 27 23 i0 (.slice none 0 0) Try.underlying27 hi hz0 .i64 .i64 n n (by omega) (Int.le_refl _) (by rw [hz2]; omega) (by omega)
  rw [hz1] at hr
  simp only [Int.toNat_natCast] at hr
  rw [show (Value.slice none 0 0).cells = #[Value.slice none 0 0] from rfl, made_rep] at hr
  unfold Oper.wp
  simp only [execOp, hop, hl, hc, Sem.run_bind, hr, Result.andThen_ok, Sem.run_pure]
  refine hK' _ _ (hK _ ?_ (below_alloc _ _))
  have := OwnRows.made (R := OwnI) (e := 23) n (by simp [maxLen]; omega) ownI_nil w
  rw [List.toArray_replicate] at this
  exact this
end
set_option maxHeartbeats 2000000 in
theorem eqIntSS_any (v u : Value) (xs ys : List (List Int)) (w : World) (h : IntSS w v xs) (h' : IntSS w u ys) :
    Calls Try.prog 11 #[v, u] w fun e w' => e = .returned (.bool (decide (xs = ys))) ∧ Below w.heap.size w w' := by
  obtain ⟨A, c, rfl, hlc, hm, hA⟩ := h
  obtain ⟨B, d, rfl, hld, hmd, hB⟩ := h'
  unfold maxLen at hm hmd
  have HA := Lib.hid hA
  have HB := Lib.hid hB
  clear hA hB
  by_cases hl : xs.length = ys.length
  · have Hl := Lib.hid hl
    have hl1 : xs.length ≤ ys.length := by omega
    have hl2 : ys.length ≤ xs.length := by omega
    have hb : ((xs.length : Int) != (ys.length : Int)) = false := by simp [hl]
    clear hl
    go_enter Try.func11, Try.ntmps11
    go_wp2
    go_loopw [5] (fun i wr => ∃ k : Nat, k ≤ xs.length ∧ i = .int .i64 k ∧ xs.take k = ys.take k ∧ Below w.heap.size w wr) (fun i _ => xs.length - (intOf i).toNat)
    case atStart => exact ⟨0, Nat.zero_le _, rfl, by simp, Below.refl _ _⟩
    case round =>
      obtain ⟨k, hk, rfl, heq, hbl⟩ := hrel
      have Heq := Lib.hid heq
      have Hbl := Lib.hid hbl
      clear heq hbl
      by_cases hlt : k < xs.length
      · have hlt2 : k < ys.length := by omega
        obtain ⟨x, hx⟩ := getx xs k hlt
        obtain ⟨y, hy⟩ := getx ys k hlt2
        obtain ⟨b, off, u1, rfl, hc1, hr1⟩ := HA.out k x hx
        obtain ⟨b', off', u2, rfl, hc2, hr2⟩ := HB.out k y hy
        have k1 := bc Hbl.out hc1
        have k2 := bc Hbl.out hc2
        have Hr1 := Lib.hid (hr1.keep Hbl.out)
        have Hr2 := Lib.hid (hr2.keep Hbl.out)
        obtain ⟨A1, z1, rfl, _⟩ := hr1
        obtain ⟨A2, z2, rfl, _⟩ := hr2
        clear hc1 hc2
        have Hx := Lib.hid hx
        have Hy := Lib.hid hy
        clear hx hy
        cases hxy : eqIs x y
        all_goals
          have Hxy := Lib.hid hxy
          clear hxy
          go_wp2
          go_region_held3 (fun w' => w'.cell? ⟨b, off + k, none⟩ = some (.slice A1 x.length z1) ∧ w'.cell? ⟨b', off' + k, none⟩ = some (.slice A2 y.length z2)) (first | exact ⟨k1, k2⟩ | exact ⟨bc hb1 k1, bc hb1 k2⟩)
            (first | (go_at_call 13; refine (eqIntS_b _ _ x y _ (by exact Hr1.out) (by exact Hr2.out)).mono ?_; rintro e w1 ⟨rfl, hb1⟩; rw [Hxy.out]))
          have Hb2 := Lib.hid (Hbl.out.drew.trans (hb1.mono (show w.heap.size ≤ wr.heap.size from Hbl.out.size)))
          clear hb1
          go_wp2
        · go_ret
          refine ⟨ret_false (decide_eq_false fun e => ?_), Hb2.out⟩
          have h1 := Hx.out
          rw [e, Hy.out] at h1
          have h2 := Hxy.out
          simp [eqIs] at h1 h2
          exact h2 h1.symm
        · go_roundw
          case rel => exact ⟨k + 1, by omega, by go_num, by rw [take_snoc Hx.out, take_snoc Hy.out, Heq.out, show x = y by simpa [eqIs] using Hxy.out], Hb2.out⟩
          case measure => simp [intOf]; omega
      · go_wp2
        go_ret
        exact ⟨ret_true (decide_eq_true (eq_of_takes Hl.out Heq.out hlt)), Hbl.out⟩
  · have hb : ((xs.length : Int) != (ys.length : Int)) = true := by simp; omega
    have Hl := Lib.hid hl
    clear hl
    go_enter Try.func11, Try.ntmps11
    go_wp2
    go_ret
    exact ⟨ret_false (decide_eq_false fun e => Hl.out (by rw [e])), Below.refl _ _⟩
theorem eqIntSS_same (v u : Value) (xs : List (List Int)) (w : World) (h : IntSS w v xs) (h' : IntSS w u xs) :
    Calls Try.prog 11 #[v, u] w fun e w' => e = .returned (.bool true) ∧ Below w.heap.size w w' :=
  (eqIntSS_any v u xs xs w h h').mono fun e w' ⟨he, hb⟩ => ⟨by rw [he]; simp, hb⟩
-- the marks
def mkII : Nat → List (List Int) → List (List Int)
  | _, [] => []
  | k, es :: r => marks k es.length :: mkII (k + es.length) r
theorem mkII_append (k : Nat) (a b : List (List Int)) : mkII k (a ++ b) = mkII k a ++ mkII (k + szR a) b := by
  induction a generalizing k with
  | nil => simp [mkII, szR]
  | cons x a ih => simp [mkII, szR, ih, Nat.add_assoc]
theorem szR_append (a b : List (List Int)) : szR (a ++ b) = szR a + szR b := by simp [szR]
theorem mkII_len (k : Nat) (a : List (List Int)) : (mkII k a).length = a.length := by
  induction a generalizing k with
  | nil => rfl
  | cons x a ih => simp [mkII, ih]
theorem mkII_set (a ess : List (List Int)) (j : Nat) (y : List Int) (hl : a.length = j) (h : j < ess.length) : (a ++ ess.drop j).set j y = (a ++ [y]) ++ ess.drop (j + 1) := by
  rw [List.set_append_right _ _ (by omega), hl, Nat.sub_self, List.drop_eq_getElem_cons h, List.set_cons_zero, List.append_assoc]
  rfl
set_option maxHeartbeats 1600000 in
theorem markIntSS_any (v : Value) (ess : List (List Int)) (k : Nat) (w : World) (base : Nat) (S : List Nat) (h : OwnII w base v ess S) (hl : k + szR ess ≤ 4611686018427387904) :
    Calls Try.prog 16 #[v, .int .i64 k] w fun e w' => e = .returned (.int .i64 ((k + szR ess : Nat) : Int)) ∧ OwnII w' base v (mkII k ess) S ∧ Only S w w' := by
  rcases (show _ ∨ _ by obtain ⟨vs, Ss, h1, _⟩ := h; exact ownsRow_cases h1) with ⟨rfl, h0⟩ | ⟨g, c, rfl, hb1, hb2, hb3, hb4⟩
  · obtain rfl : ess = [] := List.eq_nil_of_length_eq_zero h0
    go_enter Try.func16, Try.ntmps16
    go_wp2
    go_loop [1, 5] (fun m i => m = .int .i64 k ∧ i = .int .i64 0) (fun _ _ => 0)
    case atStart => exact ⟨rfl, rfl⟩
    case round =>
      obtain ⟨rfl, rfl⟩ := hrel
      go_wp2
      go_ret
      exact ⟨ret_int (by simp [szR]), h, Only.refl _ _⟩
  · have Ho := Lib.hid h
    clear h
    unfold maxLen at hb4
    go_enter Try.func16, Try.ntmps16
    go_wp2
    go_loopw [1, 5] (fun m i wr => ∃ j : Nat, j ≤ ess.length ∧ i = .int .i64 j ∧ m = .int .i64 ((k + szR (ess.take j) : Nat) : Int) ∧ OwnII wr base (.slice (some ⟨g, 0, none⟩) ess.length c) (mkII k (ess.take j) ++ ess.drop j) S ∧ Only S w wr) (fun _ i _ => ess.length - (intOf i).toNat)
    case atStart => exact ⟨0, Nat.zero_le _, rfl, by simp [szR], by simpa [mkII] using Ho.out, Only.refl _ _⟩
    case round =>
      obtain ⟨j, hj, rfl, rfl, ho, hg⟩ := hrel
      have hct := szR_le ess j
      by_cases hlt : j < ess.length
      · obtain ⟨es, hes⟩ := getx ess j hlt
        have hct2 := szR_le ess (j + 1)
        rw [szR_snoc hes] at hct2
        have hml : (mkII k (ess.take j)).length = j := by rw [mkII_len]; simp; omega
        have hy : (mkII k (ess.take j) ++ ess.drop j)[j]? = some es := by
          rw [List.getElem?_append_right (by omega), hml, Nat.sub_self, List.getElem?_drop]; simpa using hes
        obtain ⟨u, T, hc1, hR, hTS, hback⟩ := OwnRows.touch lawI ho hy
        have Hs := Lib.hid hback
        have HR := Lib.hid hR
        have HTS := Lib.hid hTS
        have Hg := Lib.hid hg
        have Hes := Lib.hid hes
        have Hml := Lib.hid hml
        obtain ⟨A1, n1, z1, rfl⟩ := lawI.one hR
        clear hy ho hg hR hback hes hml hTS
        obtain ⟨cn, hcn⟩ : ∃ cn, szR (ess.take j) = cn := ⟨_, rfl⟩
        rw [hcn] at hct2 ⊢
        have Hcn := Lib.hid hcn
        clear hcn hct
        go_wp2_with fail
        refine (markIntS_any _ es (k + cn) _ base (by exact HR.out.1) (by omega)).mono ?_
        rintro e w1 ⟨rfl, ho1, hon0⟩
        have hon : Only T wr w1 := by have := Only.of_grown hon0; exact HR.out.2 ▸ this
        have Hon := Lib.hid (Hg.out.trans (hon.mono HTS.out))
        have Hrow := Lib.hid (Hs.out _ w1 ⟨ho1, HR.out.2⟩ hon)
        clear ho1 hon hon0
        go_wp2
        go_roundw
        case rel =>
          refine ⟨j + 1, by omega, by go_num, ?_, ?_, Hon.out⟩
          · rw [szR_snoc Hes.out, Hcn.out]
            congr 1
            omega
          · rw [take_snoc Hes.out, mkII_append, Hcn.out]
            have := Hrow.out
            rw [mkII_set _ _ _ _ Hml.out hlt] at this
            exact this
        case measure => simp [intOf]; omega
      · obtain rfl : j = ess.length := by omega
        have Ho1 := Lib.hid ho
        have Hg := Lib.hid hg
        clear ho hg
        go_wp2
        go_ret
        exact ⟨ret_int (by simp), by have := Ho1.out; rwa [List.drop_length, List.append_nil, List.take_length] at this, Hg.out⟩
theorem heldIntSS_any (v : Value) (ess : List (List Int)) (k : Nat) (w : World) (h : IntSS w v (mkII k ess)) (hl : k + szR ess ≤ 4611686018427387904) :
    Calls Try.prog 17 #[v, .int .i64 k] w fun e w' => e = .returned (.int .i64 ((k + szR ess : Nat) : Int)) ∧ w = w' := by
  obtain ⟨A, c, rfl, hlc, hm, hA⟩ := h
  rw [mkII_len] at hlc ⊢
  unfold maxLen at hm
  have HA := Lib.hid hA
  clear hA
  go_enter Try.func17, Try.ntmps17
  go_wp2
  go_loop [1, 5] (fun m i => ∃ j : Nat, j ≤ ess.length ∧ i = .int .i64 j ∧ m = .int .i64 ((k + szR (ess.take j) : Nat) : Int)) (fun _ i => ess.length - (intOf i).toNat)
  case atStart => exact ⟨0, Nat.zero_le _, rfl, by simp [szR]⟩
  case round =>
    obtain ⟨j, hj, rfl, rfl⟩ := hrel
    by_cases hlt : j < ess.length
    · obtain ⟨es, hes⟩ := getx ess j hlt
      have hct2 := szR_le ess (j + 1)
      rw [szR_snoc hes] at hct2
      have hy : (mkII k ess)[j]? = some (marks (k + szR (ess.take j)) es.length) := by
        conv => lhs; rw [← List.take_append_drop j ess, mkII_append]
        rw [List.getElem?_append_right (by rw [mkII_len]; simp; omega), mkII_len]
        obtain ⟨hj', rfl⟩ := List.getElem?_eq_some_iff.1 hes
        rw [List.drop_eq_getElem_cons hj', List.length_take, Nat.min_eq_left (by omega), Nat.sub_self]
        rfl
      obtain ⟨b, off, u, rfl, hc1, hr⟩ := HA.out j _ hy
      have Hr := Lib.hid hr
      have Hes := Lib.hid hes
      obtain ⟨A1, z1, rfl, _⟩ := hr
      clear hy hes
      obtain ⟨cn, hcn⟩ : ∃ cn, szR (ess.take j) = cn := ⟨_, rfl⟩
      rw [hcn] at hct2 hc1 ⊢
      have Hcn := Lib.hid hcn
      have Hr2 := Lib.hid (show IntS w (Value.slice A1 (marks (k + cn) es.length).length z1) (marks (k + cn) es.length) by have := Hr.out; rwa [hcn] at this)
      clear hcn Hr
      go_wp2_with fail
      refine (heldIntS_any _ (k + cn) es.length _ (by exact Hr2.out) (by omega)).mono ?_
      rintro e w1 ⟨rfl, rfl⟩
      go_wp2
      go_round
      case rel =>
        refine ⟨j + 1, by omega, by go_num, ?_⟩
        rw [szR_snoc Hes.out, Hcn.out]
        congr 1
        omega
      case measure => simp [intOf]; omega
    · obtain rfl : j = ess.length := by omega
      go_wp2
      go_ret
      exact ⟨ret_int (by simp), rfl⟩
end Go.Proofs.Ythgbobikbdklhaa
