/- Parts of the proof: walks of functions and plain laws. -/
import Derived.Test.YtlfehdikgbgloaaGreatP4
namespace Go.Proofs.YtlfehdikgbgloaaGreat
open Go.RowKit
/-! rows of letters: the twins of the rows of ends (written by tools/letgen.py) -/
/-- a row of ends -/
def OwnT : World → Nat → Value → List (Int × Int) → List Nat → Prop := LeafR 169 2 encE
theorem lawT : RowLaw OwnT := leaf_law _ _ _
/-- a row of rows of ends -/
def OwnTT : World → Nat → Value → List (List (Int × Int)) → List Nat → Prop := OwnRows 167 OwnT
theorem lawTT : RowLaw OwnTT := rows_law _ lawT
theorem OwnT.read {w : World} {base : Nat} {v : Value} {es : List (Int × Int)} {S : List Nat} (h : OwnT w base v es S) : EndS w v es := by
  obtain ⟨h, hS⟩ := h
  rcases ownsRow_cases h with ⟨rfl, h0⟩ | ⟨g, c, rfl, hb, hg, hc, hm⟩
  · obtain rfl : es = [] := List.eq_nil_of_length_eq_zero h0
    exact ⟨none, 0, rfl, Nat.le_refl _, Nat.zero_le _, fun k x hk => by simp at hk⟩
  · refine ⟨_, c, rfl, hc, hm, fun k x hk => ⟨g, 0, rfl, ?_, ?_⟩⟩
    · have := lt_of_get hk
      rw [Nat.zero_add, h.cellAt (cap := c) _ (by omega)]; exact (encE_get hk).1
    · have := lt_of_get hk
      rw [Nat.zero_add, h.cellAt (cap := c) _ (by omega)]; exact (encE_get hk).2
theorem OwnTT.read {w : World} {base : Nat} {v : Value} {ess : List (List (Int × Int))} {S : List Nat} (h : OwnTT w base v ess S) : EndSS w v ess := by
  obtain ⟨vs, Ss, h1, h2, h3, h4, h5⟩ := h
  rcases ownsRow_cases h1 with ⟨rfl, h0⟩ | ⟨g, c, rfl, hb, hg, hc, hm⟩
  · obtain rfl : ess = [] := List.eq_nil_of_length_eq_zero h0
    exact ⟨none, 0, rfl, Nat.le_refl _, Nat.zero_le _, fun k x hk => by simp at hk⟩
  · have hvl : vs.length = ess.length := by simpa using h1.1
    refine ⟨_, c, rfl, hc, hm, fun k x hk => ?_⟩
    have hlt := lt_of_get hk
    obtain ⟨u, hu⟩ := getx vs k (by omega)
    obtain ⟨T, hT⟩ := getx Ss k (by omega)
    exact ⟨g, 0, u, rfl, by rw [Nat.zero_add, h1.cellAt (cap := c) _ (by omega)]; exact hu, OwnT.read (h3 k u x T hu hk hT)⟩
theorem lets_info : (Tryz.prog.info? 167).map (fun i => (i.zero, i.size, i.bytes)) = some (some (.slice none 0 0), 1, 24) := by kernel_rfl
theorem let_info : (Tryz.prog.info? 169).map (fun i => (i.zero, i.size, i.bytes)) = some (some (.agg #[.int .i64 0, .int .i64 0]), 2, 16) := by kernel_rfl
theorem ownT_nil (w : World) (base : Nat) : OwnT w base (.slice none 0 0) [] [] := ⟨World.ownsRow_nil w base _ _, rfl⟩
theorem eqLetter_any (a b c d : Int) (w : World) :
    Calls Tryz.prog 238 #[.agg #[.int .i64 a, .int .i64 b], .agg #[.int .i64 c, .int .i64 d]] w fun e w' => e = .returned (.bool (eqE (a, b) (c, d))) ∧ Below w.heap.size w w' := by
  cases h1 : (a != c)
  · cases h2 : (b != d)
    · have hr := Lib.hid (show eqE (a, b) (c, d) = true by simp at h1 h2; simp [eqE, h1, h2])
      go_enter Tryz.func238, Tryz.ntmps238
      go_wp2
      go_ret
      exact ⟨ret_true hr.out, ((Below.refl _ _).alloc (Nat.le_refl _) _).alloc (by simp) _⟩
    · have hr := Lib.hid (show eqE (a, b) (c, d) = false by simp at h1 h2; simp [eqE, h2])
      go_enter Tryz.func238, Tryz.ntmps238
      go_wp2
      go_ret
      exact ⟨ret_false hr.out, ((Below.refl _ _).alloc (Nat.le_refl _) _).alloc (by simp) _⟩
  · have hr := Lib.hid (show eqE (a, b) (c, d) = false by simp at h1; simp [eqE, h1])
    go_enter Tryz.func238, Tryz.ntmps238
    go_wp2
    go_ret
    exact ⟨ret_false hr.out, ((Below.refl _ _).alloc (Nat.le_refl _) _).alloc (by simp) _⟩
theorem eqLetterS_any (v u : Value) (xs ys : List (Int × Int)) (w : World) (h : EndS w v xs) (h' : EndS w u ys) :
    Calls Tryz.prog 204 #[v, u] w fun e w' => e = .returned (.bool (decide (xs = ys))) ∧ Below w.heap.size w w' := by
  obtain ⟨A, c, rfl, hlc, hm, hA⟩ := h
  obtain ⟨B, d, rfl, hld, hmd, hB⟩ := h'
  unfold maxLen at hm hmd
  have HA := Lib.hid hA
  have HB := Lib.hid hB
  clear hA hB
  by_cases hl : xs.length = ys.length
  · have Hl := Lib.hid hl
    have hl1 : xs.length ≤ ys.length := by omega
    have hl2 : ys.length ≤ xs.length := by omega
    have hb : ((xs.length : Int) != (ys.length : Int)) = false := by simp [hl]
    clear hl
    go_enter Tryz.func204, Tryz.ntmps204
    go_wp2
    go_loopw [5] (fun i wr => ∃ k : Nat, k ≤ xs.length ∧ i = .int .i64 k ∧ xs.take k = ys.take k ∧ Below w.heap.size w wr) (fun i _ => xs.length - (intOf i).toNat)
    case atStart => exact ⟨0, Nat.zero_le _, rfl, by simp, Below.refl _ _⟩
    case round =>
      obtain ⟨k, hk, rfl, heq, hbl⟩ := hrel
      have Heq := Lib.hid heq
      have Hbl := Lib.hid hbl
      clear heq hbl
      by_cases hlt : k < xs.length
      · have hlt2 : k < ys.length := by omega
        obtain ⟨x, hx⟩ := getx xs k hlt
        obtain ⟨y, hy⟩ := getx ys k hlt2
        obtain ⟨b, off, rfl, hc1, hc2⟩ := HA.out k x hx
        obtain ⟨b', off', rfl, hc3, hc4⟩ := HB.out k y hy
        have k1 := bc Hbl.out hc1
        have k2 := bc Hbl.out hc2
        have k3 := bc Hbl.out hc3
        have k4 := bc Hbl.out hc4
        clear hc1 hc2 hc3 hc4
        have Hx := Lib.hid hx
        have Hy := Lib.hid hy
        clear hx hy
        cases hxy : eqE x y
        all_goals
          have Hxy := Lib.hid hxy
          clear hxy
          go_wp2
          go_region_held3 (fun w' => w'.cell? ⟨b, off + k * 2, none⟩ = some (.int .i64 x.1) ∧ w'.cell? ⟨b, off + k * 2 + 1, none⟩ = some (.int .i64 x.2) ∧ w'.cell? ⟨b', off' + k * 2, none⟩ = some (.int .i64 y.1) ∧ w'.cell? ⟨b', off' + k * 2 + 1, none⟩ = some (.int .i64 y.2)) (first | exact ⟨k1, k2, k3, k4⟩ | exact ⟨bc hb1 k1, bc hb1 k2, bc hb1 k3, bc hb1 k4⟩)
            (first | (go_at_call 238; refine (eqLetter_any _ _ _ _ _).mono ?_; rintro e w1 ⟨rfl, hb1⟩; rw [Hxy.out]))
          have Hb2 := Lib.hid (Hbl.out.drew.trans (hb1.mono (show w.heap.size ≤ wr.heap.size from Hbl.out.size)))
          clear hb1
          go_wp2
        · go_ret
          refine ⟨ret_false (decide_eq_false fun e => ?_), Hb2.out⟩
          have h1 := Hx.out
          rw [e, Hy.out] at h1
          have h2 := Hxy.out
          simp [eqE] at h1 h2
          exact h2 h1.symm
        · go_roundw
          case rel => exact ⟨k + 1, by omega, by go_num, by rw [take_snoc Hx.out, take_snoc Hy.out, Heq.out, show x = y by simpa [eqE] using Hxy.out], Hb2.out⟩
          case measure => simp [intOf]; omega
      · go_wp2
        go_ret
        exact ⟨ret_true (decide_eq_true (eq_of_takes Hl.out Heq.out hlt)), Hbl.out⟩
  · have hb : ((xs.length : Int) != (ys.length : Int)) = true := by simp; omega
    have Hl := Lib.hid hl
    clear hl
    go_enter Tryz.func204, Tryz.ntmps204
    go_wp2
    go_ret
    exact ⟨ret_false (decide_eq_false fun e => Hl.out (by rw [e])), Below.refl _ _⟩
theorem eqLetterS_b (v u : Value) (xs ys : List (Int × Int)) (w : World) (h : EndS w v xs) (h' : EndS w u ys) :
    Calls Tryz.prog 204 #[v, u] w fun e w' => e = .returned (.bool (eqES xs ys)) ∧ Below w.heap.size w w' := eqLetterS_any v u xs ys w h h'
theorem eqLetterSS_any (v u : Value) (xs ys : List (List (Int × Int))) (w : World) (h : EndSS w v xs) (h' : EndSS w u ys) :
    Calls Tryz.prog 159 #[v, u] w fun e w' => e = .returned (.bool (decide (xs = ys))) ∧ Below w.heap.size w w' := by
  obtain ⟨A, c, rfl, hlc, hm, hA⟩ := h
  obtain ⟨B, d, rfl, hld, hmd, hB⟩ := h'
  unfold maxLen at hm hmd
  have HA := Lib.hid hA
  have HB := Lib.hid hB
  clear hA hB
  by_cases hl : xs.length = ys.length
  · have Hl := Lib.hid hl
    have hl1 : xs.length ≤ ys.length := by omega
    have hl2 : ys.length ≤ xs.length := by omega
    have hb : ((xs.length : Int) != (ys.length : Int)) = false := by simp [hl]
    clear hl
    go_enter Tryz.func159, Tryz.ntmps159
    go_wp2
    go_loopw [5] (fun i wr => ∃ k : Nat, k ≤ xs.length ∧ i = .int .i64 k ∧ xs.take k = ys.take k ∧ Below w.heap.size w wr) (fun i _ => xs.length - (intOf i).toNat)
    case atStart => exact ⟨0, Nat.zero_le _, rfl, by simp, Below.refl _ _⟩
    case round =>
      obtain ⟨k, hk, rfl, heq, hbl⟩ := hrel
      have Heq := Lib.hid heq
      have Hbl := Lib.hid hbl
      clear heq hbl
      by_cases hlt : k < xs.length
      · have hlt2 : k < ys.length := by omega
        obtain ⟨x, hx⟩ := getx xs k hlt
        obtain ⟨y, hy⟩ := getx ys k hlt2
        obtain ⟨b, off, u1, rfl, hc1, hr1⟩ := HA.out k x hx
        obtain ⟨b', off', u2, rfl, hc2, hr2⟩ := HB.out k y hy
        have k1 := bc Hbl.out hc1
        have k2 := bc Hbl.out hc2
        have Hr1 := Lib.hid (hr1.keep Hbl.out)
        have Hr2 := Lib.hid (hr2.keep Hbl.out)
        obtain ⟨A1, z1, rfl, _⟩ := hr1
        obtain ⟨A2, z2, rfl, _⟩ := hr2
        clear hc1 hc2
        have Hx := Lib.hid hx
        have Hy := Lib.hid hy
        clear hx hy
        cases hxy : eqES x y
        all_goals
          have Hxy := Lib.hid hxy
          clear hxy
          go_wp2
          go_region_held3 (fun w' => w'.cell? ⟨b, off + k, none⟩ = some (.slice A1 x.length z1) ∧ w'.cell? ⟨b', off' + k, none⟩ = some (.slice A2 y.length z2)) (first | exact ⟨k1, k2⟩ | exact ⟨bc hb1 k1, bc hb1 k2⟩)
            (first | (go_at_call 204; refine (eqLetterS_b _ _ x y _ (by exact Hr1.out) (by exact Hr2.out)).mono ?_; rintro e w1 ⟨rfl, hb1⟩; rw [Hxy.out]))
          have Hb2 := Lib.hid (Hbl.out.drew.trans (hb1.mono (show w.heap.size ≤ wr.heap.size from Hbl.out.size)))
          clear hb1
          go_wp2
        · go_ret
          refine ⟨ret_false (decide_eq_false fun e => ?_), Hb2.out⟩
          have h1 := Hx.out
          rw [e, Hy.out] at h1
          have h2 := Hxy.out
          simp [eqES] at h1 h2
          exact h2 h1.symm
        · go_roundw
          case rel => exact ⟨k + 1, by omega, by go_num, by rw [take_snoc Hx.out, take_snoc Hy.out, Heq.out, show x = y by simpa [eqES] using Hxy.out], Hb2.out⟩
          case measure => simp [intOf]; omega
      · go_wp2
        go_ret
        exact ⟨ret_true (decide_eq_true (eq_of_takes Hl.out Heq.out hlt)), Hbl.out⟩
  · have hb : ((xs.length : Int) != (ys.length : Int)) = true := by simp; omega
    have Hl := Lib.hid hl
    clear hl
    go_enter Tryz.func159, Tryz.ntmps159
    go_wp2
    go_ret
    exact ⟨ret_false (decide_eq_false fun e => Hl.out (by rw [e])), Below.refl _ _⟩
theorem eqLetterSS_b (v u : Value) (xs ys : List (List (Int × Int))) (w : World) (h : EndSS w v xs) (h' : EndSS w u ys) :
    Calls Tryz.prog 159 #[v, u] w fun e w' => e = .returned (.bool (eqEE xs ys)) ∧ Below w.heap.size w w' := eqLetterSS_any v u xs ys w h h'
theorem OwnT.cells {w : World} {base g c n : Nat} {es : List (Int × Int)} {S : List Nat} (h : OwnT w base (.slice (some ⟨g, 0, none⟩) n c) es S) {k : Nat} {x : Int × Int} (hx : es[k]? = some x) :
    w.cell? ⟨g, k * 2, none⟩ = some (.int .i64 x.1) ∧ w.cell? ⟨g, k * 2 + 1, none⟩ = some (.int .i64 x.2) ∧ w.frozen? ⟨g, k * 2, none⟩ = false ∧ w.frozen? ⟨g, k * 2 + 1, none⟩ = false := by
  obtain ⟨h, _⟩ := h
  have hn := ownsRow_len h
  subst hn
  have := lt_of_get hx
  exact ⟨by rw [h.cellAt (cap := c) _ (by omega)]; exact (encE_get hx).1, by rw [h.cellAt (cap := c) _ (by omega)]; exact (encE_get hx).2, h.frozenAt _, h.frozenAt _⟩
theorem OwnT.set {w : World} {base g c n : Nat} {es : List (Int × Int)} {S : List Nat} (h : OwnT w base (.slice (some ⟨g, 0, none⟩) n c) es S) {k : Nat} (hk : k < es.length) (x : Int × Int) :
    OwnT ((w.setCell ⟨g, k * 2, none⟩ (.int .i64 x.1)).setCell ⟨g, k * 2 + 1, none⟩ (.int .i64 x.2)) base (.slice (some ⟨g, 0, none⟩) n c) (es.set k x) S := by
  obtain ⟨h, hS⟩ := h
  have hn := ownsRow_len h
  subst hn
  have h1 := (h.stored (k * 2) (.int .i64 x.1)).1
  have h2 := (h1.stored (k * 2 + 1) (.int .i64 x.2)).1
  rw [encE_set x hk] at h2
  refine ⟨?_, hS⟩
  rw [List.length_set]
  exact h2
theorem OwnT.len {w : World} {base : Nat} {A : Option Addr} {n c : Nat} {es : List (Int × Int)} {S : List Nat} (h : OwnT w base (.slice A n c) es S) : n = es.length := by
  rcases ownsRow_cases h.1 with ⟨h1, h0⟩ | ⟨g, c, h1, _⟩
  · cases h1; omega
  · cases h1; rfl
theorem OwnTT.len {w : World} {base : Nat} {A : Option Addr} {n c : Nat} {es : List (List (Int × Int))} {S : List Nat} (h : OwnTT w base (.slice A n c) es S) : n = es.length := by
  obtain ⟨vs, Ss, h1, _⟩ := h
  rcases ownsRow_cases h1 with ⟨h1, h0⟩ | ⟨g, c, h1, _⟩
  · cases h1; omega
  · cases h1; rfl
set_option maxHeartbeats 1000000 in
theorem toLetter_any (a b : Int) (w : World) : Calls Tryz.prog 234 #[.agg #[.int .i64 a, .int .i64 b]] w fun e w' => e = .returned (.agg #[.int .i64 a, .int .i64 b]) ∧ Below w.heap.size w w' := by
  go_enter Tryz.func234, Tryz.ntmps234
  go_wp2
  refine bodyPost_ret (v := .agg #[.int .i64 a, .int .i64 b]) (by simp [results, Tryz.results234, go_sem]) rfl ?_
  exact ⟨rfl, below3 _ _ _ _⟩
set_option maxHeartbeats 1000000 in
theorem szLetterS_any (v : Value) (es : List (Int × Int)) (l : Int) (hl : 0 ≤ l) (hl2 : l ≤ 1048576) (w : World) (h : EndS w v es) : Calls Tryz.prog 199 #[v, .int .i64 l] w fun e w' => e = .returned (.int .i64 (left l es.length)) ∧ w = w' := by
  obtain ⟨A, c, rfl, hlc, hm, _⟩ := h
  unfold maxLen at hm
  by_cases h : l - es.length < 0
  · rw [show left l es.length = -1 by simp [left, h]]
    go_enter Tryz.func199, Tryz.ntmps199
    go_wp2
    go_ret
    exact ⟨rfl, rfl⟩
  · rw [show left l es.length = l - es.length by simp [left, h]]
    go_enter Tryz.func199, Tryz.ntmps199
    go_wp2
    go_ret
    exact ⟨rfl, rfl⟩
set_option maxHeartbeats 2000000 in
theorem szLetterSS_any (v : Value) (ess : List (List (Int × Int))) (l : Int) (hl : 0 ≤ l) (hl2 : l ≤ 1048576) (w : World) (h : EndSS w v ess) : Calls Tryz.prog 150 #[v, .int .i64 l] w fun e w' => e = .returned (.int .i64 (left l (szEE ess))) ∧ w = w' := by
  obtain ⟨A, c, rfl, hlc, hm, hA⟩ := h
  unfold maxLen at hm
  have HA := Lib.hid hA
  clear hA
  by_cases h : l - ess.length < 0
  · have hr := Lib.hid (left_neg (m := szEE ess) h (by unfold szEE; omega))
    go_enter Tryz.func150, Tryz.ntmps150
    go_wp2
    go_ret
    exact ⟨ret_int hr.out.symm, rfl⟩
  · go_enter Tryz.func150, Tryz.ntmps150
    go_wp2
    go_loop [1, 5] (fun t i => ∃ k : Nat, k ≤ ess.length ∧ i = .int .i64 k ∧ t = .int .i64 (l - ess.length - szRows (ess.take k)) ∧ 0 ≤ l - ess.length - szRows (ess.take k)) (fun _ i => ess.length - (intOf i).toNat)
    case atStart => exact ⟨0, Nat.zero_le _, rfl, by simp [szRows], by simp [szRows]; omega⟩
    case round =>
      obtain ⟨k, hk, rfl, rfl, hge⟩ := hrel
      obtain ⟨t, ht⟩ : ∃ t, t = l - ess.length - szRows (ess.take k) := ⟨_, rfl⟩
      rw [← ht] at hge ⊢
      by_cases hlt : k < ess.length
      · obtain ⟨es, hes⟩ := getx ess k hlt
        obtain ⟨b, off, u, rfl, hcell, hu⟩ := HA.out k es hes
        have Hu := Lib.hid hu
        have hs := szRows_snoc hes
        have ht2 : t ≤ 1048576 := by omega
        by_cases hneg : t - es.length < 0
        · have hr := Lib.hid (show left l (szEE ess) = -1 from left_neg (n := ess.length + szRows (ess.take (k + 1))) (by omega) (by have := szRows_le ess (k + 1); unfold szEE; omega))
          have hlf : left t es.length = -1 := by unfold left; rw [if_pos hneg]
          have Ht := Lib.hid ht
          clear ht hs hu hes
          go_wp2_with fail
          refine (szLetterS_any _ es t hge ht2 _ Hu.out).mono ?_
          rw [hlf]
          rintro e w' ⟨rfl, rfl⟩
          go_wp2
          go_ret
          exact ⟨ret_int hr.out.symm, rfl⟩
        · have hlf : left t es.length = t - es.length := left_pos hneg
          have Ht := Lib.hid ht
          have Hs := Lib.hid hs
          clear ht hs hu hes
          go_wp2_with fail
          refine (szLetterS_any _ es t hge ht2 _ Hu.out).mono ?_
          rw [hlf]
          rintro e w' ⟨rfl, rfl⟩
          go_wp2
          go_round
          case rel => exact ⟨k + 1, by omega, by simp, by have := Ht.out; have := Hs.out; congr 1; omega, by have := Ht.out; have := Hs.out; omega⟩
          case measure => simp [intOf]; omega
      · obtain rfl : k = ess.length := by omega
        have hr := Lib.hid (show left l (szEE ess) = t by rw [left_pos (by rw [List.take_length] at ht; unfold szEE; omega), ht, List.take_length]; unfold szEE; omega)
        clear ht
        go_wp2
        go_ret
        exact ⟨ret_int hr.out.symm, rfl⟩
section
variable {ops : Array Oper} {rest : List Oper} {o : Oper} {a : Act} {Q : Exit → Act → World → Prop}
theorem mk_lets (w : World) (hg : o.guard = none) (l c : Operand) (hop : o.op = Op.makeSlice 167 l c) (L C : Int) (n : Nat) (hl : a.eval l = .int .i64 L) (hc : a.eval c = .int .i64 C) (hL : L = (n : Int)) (hC : C = (n : Int)) (hn : n ≤ 1099511627776)
    (hK : ∀ w', OwnT w' w.heap.size (.slice (some ⟨w.heap.size, 0, none⟩) n n) (List.replicate n (0, 0)) [w.heap.size] → Below w.heap.size w w' → wpList Tryz.prog ops Q rest (a.put o.dst (.slice (some ⟨w.heap.size, 0, none⟩) n n)) w') : wpList Tryz.prog ops Q (o :: rest) a w := by
  obtain ⟨i0, hi, hz0, hz1, hz2⟩ := info_parts let_info
  refine wpList_make_full w hg l c 167 hop w.heap.size 169 i0 (.agg #[.int .i64 0, .int .i64 0]) 2 Tryz.underlying167 hi hz0 hz1 .i64 .i64 L C n hl hc hL hC (by rw [hz2]; omega) (by unfold maxLen; omega) (Nat.le_refl _) ?_
  intro w' ho hgr
  rw [show (Value.agg #[Value.int IntKind.i64 0, Value.int IntKind.i64 0]).cells = #[Value.int .i64 0, Value.int .i64 0] from rfl, made_ends] at ho
  exact hK w' ⟨by rw [List.length_replicate]; exact ho, by simp [Value.ownBlock]⟩ (below_grown hgr)
end
set_option maxHeartbeats 2000000 in
theorem toLetterS_any (v : Value) (es : List (Int × Int)) (w : World) (h : EndS w v es) (hl : es.length ≤ 1048576) :
    Calls Tryz.prog 200 #[v] w fun e w' => ∃ g, e = .returned (.slice (some ⟨g, 0, none⟩) es.length es.length) ∧ OwnT w' w.heap.size (.slice (some ⟨g, 0, none⟩) es.length es.length) es [g] ∧ Below w.heap.size w w' := by
  obtain ⟨A, c, rfl, hlc, hm, hA⟩ := h
  unfold maxLen at hm
  have HA := Lib.hid hA
  clear hA
  go_enter Tryz.func200, Tryz.ntmps200
  go_wp2_with (at_make; refine mk_lets _ rfl _ _ rfl _ _ es.length rfl rfl rfl rfl (by omega) ?_; intro w1 ho1 hb1)
  go_loopw [4] (fun i wr => ∃ k : Nat, k ≤ es.length ∧ i = .int .i64 k ∧ OwnT wr w.heap.size (.slice (some ⟨w.heap.size, 0, none⟩) es.length es.length) (es.take k ++ List.replicate (es.length - k) (0, 0)) [w.heap.size] ∧ Below w.heap.size w wr) (fun i _ => es.length - (intOf i).toNat)
  case atStart => exact ⟨0, Nat.zero_le _, rfl, by simpa using ho1, hb1⟩
  case round =>
    obtain ⟨k, hk, rfl, ho, hb⟩ := hrel
    clear ho1 hb1
    by_cases hlt : k < es.length
    · obtain ⟨x, hx⟩ := getx es k hlt
      obtain ⟨b, off, rfl, hc1, hc2⟩ := HA.out k x hx
      have k1 := bc hb hc1
      have k2 := bc hb hc2
      have Ho := Lib.hid ho
      have Hb := Lib.hid hb
      have Hx := Lib.hid hx
      clear hx hc1 hc2 ho hb
      go_wp2_with fail
      refine (toLetter_any x.1 x.2 _).mono ?_
      rintro e w2 ⟨rfl, hb2⟩
      have ho2 : OwnT w2 w.heap.size (.slice (some ⟨w.heap.size, 0, none⟩) es.length es.length) (es.take k ++ List.replicate (es.length - k) (0, 0)) [w.heap.size] := lawT.keep Ho.out hb2
      obtain ⟨y, hy⟩ := getx (es.take k ++ List.replicate (es.length - k) (0, 0)) k (by simp; omega)
      obtain ⟨y1, y2, f1, f2⟩ := ho2.cells hy
      have ho3 := ho2.set (k := k) (by simp; omega) x
      rw [set_fill (0, 0) es k x Hx.out] at ho3
      have Ho3 := Lib.hid ho3
      have Hb3 := Lib.hid (((Hb.out.trans (hb2.mono Hb.out.size)).setCell (p := ⟨w.heap.size, k * 2, none⟩) (Nat.le_refl _) (.int .i64 x.1)).setCell (p := ⟨w.heap.size, k * 2 + 1, none⟩) (Nat.le_refl _) (.int .i64 x.2))
      clear ho2 hy ho3 hb2
      go_wp2
      go_roundw
      case rel => exact ⟨k + 1, by omega, by simp, Ho3.out, Hb3.out⟩
      case measure => simp [intOf]; omega
    · have e1 : es.take k ++ List.replicate (es.length - k) ((0 : Int), (0 : Int)) = es := by rw [take_all es hlt, show es.length - k = 0 by omega, List.replicate_zero, List.append_nil]
      rw [e1] at ho
      have Ho := Lib.hid ho
      have Hb := Lib.hid hb
      clear ho hb e1
      go_wp2
      go_ret
      exact ⟨_, rfl, Ho.out, Hb.out⟩
section
variable {ops : Array Oper} {rest : List Oper} {o : Oper} {a : Act} {Q : Exit → Act → World → Prop}
theorem mk_letrows (w : World) (hg : o.guard = none) (l c : Operand) (hop : o.op = Op.makeSlice 146 l c) (n : Nat) (hl : a.eval l = .int .i64 (n : Int)) (hc : a.eval c = .int .i64 (n : Int)) (hn : n ≤ 1048576)
    (hK : ∀ w', OwnTT w' w.heap.size (.slice (some ⟨w.heap.size, 0, none⟩) n n) (List.replicate n []) [w.heap.size] → Below w.heap.size w w' → wpList Tryz.prog ops Q rest (a.put o.dst (.slice (some ⟨w.heap.size, 0, none⟩) n n)) w') : wpList Tryz.prog ops Q (o :: rest) a w := by
  obtain ⟨i0, hi, hz0, hz1, hz2⟩ := info_parts lets_info
  refine wpList_plain hg fun K hK' => ?_
  have hr := run_make (P := Tryz.prog) w 146 167 i0 (.slice none 0 0) Tryz.underlying146 hi hz0 .i64 .i64 n n (by omega) (Int.le_refl _) (by rw [hz2]; omega) (by omega)
  rw [hz1] at hr
  simp only [Int.toNat_natCast] at hr
  rw [show (Value.slice none 0 0).cells = #[Value.slice none 0 0] from rfl, made_rep] at hr
  unfold Oper.wp
  simp only [execOp, hop, hl, hc, Sem.run_bind, hr, Result.andThen_ok, Sem.run_pure]
  refine hK' _ _ (hK _ ?_ (below_alloc _ _))
  have := OwnRows.made (R := OwnT) (e := 167) n (by simp [maxLen]; omega) ownT_nil w
  rw [List.toArray_replicate] at this
  exact this
end
set_option maxHeartbeats 2000000 in
theorem toLetterSS_any (v : Value) (ess : List (List (Int × Int))) (w : World) (h : EndSS w v ess) (hl : szEE ess ≤ 1048576) :
    Calls Tryz.prog 156 #[v] w fun e w' => ∃ g S, e = .returned (.slice (some ⟨g, 0, none⟩) ess.length ess.length) ∧ OwnTT w' w.heap.size (.slice (some ⟨g, 0, none⟩) ess.length ess.length) ess S ∧ Below w.heap.size w w' := by
  obtain ⟨A, c, rfl, hlc, hm, hA⟩ := h
  unfold maxLen at hm
  have HA := Lib.hid hA
  clear hA
  have hl1 : ess.length ≤ 1048576 := by unfold szEE at hl; omega
  have Hl := Lib.hid hl
  clear hl
  go_enter Tryz.func156, Tryz.ntmps156
  go_wp2_with (at_make; refine mk_letrows _ rfl _ _ rfl ess.length rfl rfl hl1 ?_; intro w1 ho1 hb1)
  go_loopw [4] (fun i wr => ∃ (k : Nat) (S : List Nat), k ≤ ess.length ∧ i = .int .i64 k ∧ OwnTT wr w.heap.size (.slice (some ⟨w.heap.size, 0, none⟩) ess.length ess.length) (ess.take k ++ List.replicate (ess.length - k) []) S ∧ Below w.heap.size w wr) (fun i _ => ess.length - (intOf i).toNat)
  case atStart => exact ⟨0, _, Nat.zero_le _, rfl, by simpa using ho1, hb1⟩
  case round =>
    obtain ⟨k, S, hk, rfl, ho, hb⟩ := hrel
    clear ho1 hb1
    by_cases hlt : k < ess.length
    · obtain ⟨x, hx⟩ := getx ess k hlt
      obtain ⟨b, off, u, rfl, hc1, hu⟩ := HA.out k x hx
      have k1 := bc hb hc1
      have Hu := Lib.hid (hu.keep hb)
      have Ho := Lib.hid ho
      have Hb := Lib.hid hb
      have Hx := Lib.hid hx
      have Hxl : Hid (x.length ≤ 1048576) := by
        have h1 := szRows_snoc hx
        have h2 := szRows_le ess (k + 1)
        have h3 := Hl.out
        unfold szEE at h3
        exact show _ ≤ _ by omega
      clear hx hc1 ho hb hu
      go_wp2_with fail
      refine (toLetterS_any _ x _ Hu.out Hxl.out).mono ?_
      rintro e w2 ⟨g, rfl, hr2, hb2⟩
      have ho2 := lawTT.keep Ho.out hb2
      obtain ⟨y, hy⟩ := getx (ess.take k ++ List.replicate (ess.length - k) []) k (by simp; omega)
      obtain ⟨_, _, y1, f1, _⟩ := OwnRows.at_ ho2 hy
      have hS := lawTT.range Ho.out
      have hg2 := (lawT.range hr2 g (by simp)).1
      obtain ⟨S3, ho3, _⟩ := OwnRows.store lawT ho2 k (lawT.mono hr2 Hb.out.size) (fun j hj hjS => by simp at hj; subst hj; have := (hS _ hjS).2; omega)
      rw [set_fill [] ess k x Hx.out] at ho3
      have Ho3 := Lib.hid ho3
      have Hb3 := Lib.hid ((Hb.out.trans (hb2.mono Hb.out.size)).setCell (p := ⟨w.heap.size, k, none⟩) (Nat.le_refl _) (.slice (some ⟨g, 0, none⟩) x.length x.length))
      clear ho2 hy ho3 hb2 hr2 hS
      go_wp2
      go_roundw
      case rel => exact ⟨k + 1, S3, by omega, by simp, Ho3.out, Hb3.out⟩
      case measure => simp [intOf]; omega
    · have e1 : ess.take k ++ List.replicate (ess.length - k) ([] : List (Int × Int)) = ess := by rw [List.take_of_length_le (by omega), show ess.length - k = 0 by omega, List.replicate_zero, List.append_nil]
      rw [e1] at ho
      have Ho := Lib.hid ho
      have Hb := Lib.hid hb
      clear ho hb e1
      go_wp2
      go_ret
      exact ⟨_, S, rfl, Ho.out, Hb.out⟩
end Go.Proofs.YtlfehdikgbgloaaGreat
namespace Go.Proofs.YtlfehdikgbgloaaGreat
open Go.RowKit
/-! rows of rows of rows of letters -/
theorem lets3_info : (Tryz.prog.info? 146).map (fun i => (i.zero, i.size, i.bytes)) = some (some (.slice none 0 0), 1, 24) := by kernel_rfl
theorem ownTT_nil (w : World) (base : Nat) : OwnTT w base (.slice none 0 0) [] [] := ⟨[], [], World.ownsRow_nil w base _ _, rfl, fun k u x T h => by simp at h, rfl, List.nodup_nil⟩
def Ess64 (ess : List (List (Int × Int))) : Prop := ∀ es ∈ ess, Es64 es
/-- a slice of slices of ends that reads as ess -/
def EndSSS (w : World) (v : Value) (ess : List (List (List (Int × Int)))) : Prop :=
  ∃ (A : Option Addr) (c : Nat), v = .slice A ess.length c ∧ ess.length ≤ c ∧ c ≤ maxLen ∧
    (∀ k es, ess[k]? = some es → ∃ b off u, A = some ⟨b, off, none⟩ ∧ w.cell? ⟨b, off + k, none⟩ = some u ∧ EndSS w u es)
theorem EndSSS.keep {w w' : World} {v : Value} {xs : List (List (List (Int × Int)))} (h : EndSSS w v xs) (hb : Below w.heap.size w w') : EndSSS w' v xs := by
  obtain ⟨A, c, hv, hc, hm, hA⟩ := h
  refine ⟨A, c, hv, hc, hm, fun k x hk => ?_⟩
  obtain ⟨b, off, u, hA', h1, h2⟩ := hA k x hk
  exact ⟨b, off, u, hA', bc hb h1, h2.keep hb⟩
/-- a row of rows of ends -/
def OwnTTT : World → Nat → Value → List (List (List (Int × Int))) → List Nat → Prop := OwnRows 146 OwnTT
theorem lawTTT : RowLaw OwnTTT := rows_law _ lawTT
theorem OwnTTT.read {w : World} {base : Nat} {v : Value} {ess : List (List (List (Int × Int)))} {S : List Nat} (h : OwnTTT w base v ess S) : EndSSS w v ess := by
  obtain ⟨vs, Ss, h1, h2, h3, h4, h5⟩ := h
  rcases ownsRow_cases h1 with ⟨rfl, h0⟩ | ⟨g, c, rfl, hb, hg, hc, hm⟩
  · obtain rfl : ess = [] := List.eq_nil_of_length_eq_zero h0
    exact ⟨none, 0, rfl, Nat.le_refl _, Nat.zero_le _, fun k x hk => by simp at hk⟩
  · have hvl : vs.length = ess.length := by simpa using h1.1
    refine ⟨_, c, rfl, hc, hm, fun k x hk => ?_⟩
    have hlt := lt_of_get hk
    obtain ⟨u, hu⟩ := getx vs k (by omega)
    obtain ⟨T, hT⟩ := getx Ss k (by omega)
    exact ⟨g, 0, u, rfl, by rw [Nat.zero_add, h1.cellAt (cap := c) _ (by omega)]; exact hu, OwnTT.read (h3 k u x T hu hk hT)⟩
theorem eqLetterSSS_any (v u : Value) (xs ys : List (List (List (Int × Int)))) (w : World) (h : EndSSS w v xs) (h' : EndSSS w u ys) :
    Calls Tryz.prog 96 #[v, u] w fun e w' => e = .returned (.bool (decide (xs = ys))) ∧ Below w.heap.size w w' := by
  obtain ⟨A, c, rfl, hlc, hm, hA⟩ := h
  obtain ⟨B, d, rfl, hld, hmd, hB⟩ := h'
  unfold maxLen at hm hmd
  have HA := Lib.hid hA
  have HB := Lib.hid hB
  clear hA hB
  by_cases hl : xs.length = ys.length
  · have Hl := Lib.hid hl
    have hl1 : xs.length ≤ ys.length := by omega
    have hl2 : ys.length ≤ xs.length := by omega
    have hb : ((xs.length : Int) != (ys.length : Int)) = false := by simp [hl]
    clear hl
    go_enter Tryz.func96, Tryz.ntmps96
    go_wp2
    go_loopw [5] (fun i wr => ∃ k : Nat, k ≤ xs.length ∧ i = .int .i64 k ∧ xs.take k = ys.take k ∧ Below w.heap.size w wr) (fun i _ => xs.length - (intOf i).toNat)
    case atStart => exact ⟨0, Nat.zero_le _, rfl, by simp, Below.refl _ _⟩
    case round =>
      obtain ⟨k, hk, rfl, heq, hbl⟩ := hrel
      have Heq := Lib.hid heq
      have Hbl := Lib.hid hbl
      clear heq hbl
      by_cases hlt : k < xs.length
      · have hlt2 : k < ys.length := by omega
        obtain ⟨x, hx⟩ := getx xs k hlt
        obtain ⟨y, hy⟩ := getx ys k hlt2
        obtain ⟨b, off, u1, rfl, hc1, hr1⟩ := HA.out k x hx
        obtain ⟨b', off', u2, rfl, hc2, hr2⟩ := HB.out k y hy
        have k1 := bc Hbl.out hc1
        have k2 := bc Hbl.out hc2
        have Hr1 := Lib.hid (hr1.keep Hbl.out)
        have Hr2 := Lib.hid (hr2.keep Hbl.out)
        obtain ⟨A1, z1, rfl, _⟩ := hr1
        obtain ⟨A2, z2, rfl, _⟩ := hr2
        clear hc1 hc2
        have Hx := Lib.hid hx
        have Hy := Lib.hid hy
        clear hx hy
        cases hxy : eqEE x y
        all_goals
          have Hxy := Lib.hid hxy
          clear hxy
          go_wp2
          go_region_held3 (fun w' => w'.cell? ⟨b, off + k, none⟩ = some (.slice A1 x.length z1) ∧ w'.cell? ⟨b', off' + k, none⟩ = some (.slice A2 y.length z2)) (first | exact ⟨k1, k2⟩ | exact ⟨bc hb1 k1, bc hb1 k2⟩)
            (first | (go_at_call 159; refine (eqLetterSS_b _ _ x y _ (by exact Hr1.out) (by exact Hr2.out)).mono ?_; rintro e w1 ⟨rfl, hb1⟩; rw [Hxy.out]))
          have Hb2 := Lib.hid (Hbl.out.drew.trans (hb1.mono (show w.heap.size ≤ wr.heap.size from Hbl.out.size)))
          clear hb1
          go_wp2
        · go_ret
          refine ⟨ret_false (decide_eq_false fun e => ?_), Hb2.out⟩
          have h1 := Hx.out
          rw [e, Hy.out] at h1
          have h2 := Hxy.out
          simp [eqEE] at h1 h2
          exact h2 h1.symm
        · go_roundw
          case rel => exact ⟨k + 1, by omega, by go_num, by rw [take_snoc Hx.out, take_snoc Hy.out, Heq.out, show x = y by simpa [eqEE] using Hxy.out], Hb2.out⟩
          case measure => simp [intOf]; omega
      · go_wp2
        go_ret
        exact ⟨ret_true (decide_eq_true (eq_of_takes Hl.out Heq.out hlt)), Hbl.out⟩
  · have hb : ((xs.length : Int) != (ys.length : Int)) = true := by simp; omega
    have Hl := Lib.hid hl
    clear hl
    go_enter Tryz.func96, Tryz.ntmps96
    go_wp2
    go_ret
    exact ⟨ret_false (decide_eq_false fun e => Hl.out (by rw [e])), Below.refl _ _⟩
theorem OwnTTT.len {w : World} {base : Nat} {A : Option Addr} {n c : Nat} {es : List (List (List (Int × Int)))} {S : List Nat} (h : OwnTTT w base (.slice A n c) es S) : n = es.length := by
  obtain ⟨vs, Ss, h1, _⟩ := h
  rcases ownsRow_cases h1 with ⟨h1, h0⟩ | ⟨g, c, h1, _⟩
  · cases h1; omega
  · cases h1; rfl
def szR3 (ess : List (List (List (Int × Int)))) : Nat := (ess.map szEE).sum
theorem szR3_snoc {ess : List (List (List (Int × Int)))} {k : Nat} {es : List (List (Int × Int))} (h : ess[k]? = some es) : szR3 (ess.take (k + 1)) = szR3 (ess.take k) + szEE es := by
  unfold szR3
  rw [List.take_add_one, h]; simp
theorem szR3_le (ess : List (List (List (Int × Int)))) (k : Nat) : szR3 (ess.take k) ≤ szR3 ess := by
  unfold szR3
  conv => rhs; rw [← List.take_append_drop k ess]
  rw [List.map_append, List.sum_append]; omega
def szT3 (ess : List (List (List (Int × Int)))) : Nat := ess.length + szR3 ess
set_option maxHeartbeats 2000000 in
theorem szLetterSSS_any (v : Value) (ess : List (List (List (Int × Int)))) (l : Int) (hl : 0 ≤ l) (hl2 : l ≤ 1048576) (w : World) (h : EndSSS w v ess) : Calls Tryz.prog 84 #[v, .int .i64 l] w fun e w' => e = .returned (.int .i64 (left l (szT3 ess))) ∧ w = w' := by
  obtain ⟨A, c, rfl, hlc, hm, hA⟩ := h
  unfold maxLen at hm
  have HA := Lib.hid hA
  clear hA
  by_cases h : l - ess.length < 0
  · have hr := Lib.hid (left_neg (m := szT3 ess) h (by unfold szT3; omega))
    go_enter Tryz.func84, Tryz.ntmps84
    go_wp2
    go_ret
    exact ⟨ret_int hr.out.symm, rfl⟩
  · go_enter Tryz.func84, Tryz.ntmps84
    go_wp2
    go_loop [1, 5] (fun t i => ∃ k : Nat, k ≤ ess.length ∧ i = .int .i64 k ∧ t = .int .i64 (l - ess.length - szR3 (ess.take k)) ∧ 0 ≤ l - ess.length - szR3 (ess.take k)) (fun _ i => ess.length - (intOf i).toNat)
    case atStart => exact ⟨0, Nat.zero_le _, rfl, by simp [szR3], by simp [szR3]; omega⟩
    case round =>
      obtain ⟨k, hk, rfl, rfl, hge⟩ := hrel
      obtain ⟨t, ht⟩ : ∃ t, t = l - ess.length - szR3 (ess.take k) := ⟨_, rfl⟩
      rw [← ht] at hge ⊢
      by_cases hlt : k < ess.length
      · obtain ⟨es, hes⟩ := getx ess k hlt
        obtain ⟨b, off, u, rfl, hcell, hu⟩ := HA.out k es hes
        have Hu := Lib.hid hu
        have hs := szR3_snoc hes
        have ht2 : t ≤ 1048576 := by omega
        by_cases hneg : t - (szEE es : Nat) < 0
        · have hr := Lib.hid (show left l (szT3 ess) = -1 from left_neg (n := ess.length + szR3 (ess.take (k + 1))) (by omega) (by have := szR3_le ess (k + 1); unfold szT3; omega))
          have hlf : left t (szEE es) = -1 := by unfold left; rw [if_pos hneg]
          have Ht := Lib.hid ht
          clear ht hs hu hes
          go_wp2_with fail
          refine (szLetterSS_any _ es t hge ht2 _ Hu.out).mono ?_
          rw [hlf]
          rintro e w' ⟨rfl, rfl⟩
          go_wp2
          go_ret
          exact ⟨ret_int hr.out.symm, rfl⟩
        · have hlf : left t (szEE es) = t - (szEE es : Nat) := left_pos hneg
          have Ht := Lib.hid ht
          have Hs := Lib.hid hs
          clear ht hs hu hes
          go_wp2_with fail
          refine (szLetterSS_any _ es t hge ht2 _ Hu.out).mono ?_
          rw [hlf]
          rintro e w' ⟨rfl, rfl⟩
          go_wp2
          go_round
          case rel => exact ⟨k + 1, by omega, by simp, by have := Ht.out; have := Hs.out; congr 1; omega, by have := Ht.out; have := Hs.out; omega⟩
          case measure => simp [intOf]; omega
      · obtain rfl : k = ess.length := by omega
        have hr := Lib.hid (show left l (szT3 ess) = t by rw [left_pos (by rw [List.take_length] at ht; unfold szT3; omega), ht, List.take_length]; unfold szT3; omega)
        clear ht
        go_wp2
        go_ret
        exact ⟨ret_int hr.out.symm, rfl⟩
section
variable {ops : Array Oper} {rest : List Oper} {o : Oper} {a : Act} {Q : Exit → Act → World → Prop}
theorem mk_letrows3 (w : World) (hg : o.guard = none) (l c : Operand) (hop : o.op = Op.makeSlice 64 l c) (n : Nat) (hl : a.eval l = .int .i64 (n : Int)) (hc : a.eval c = .int .i64 (n : Int)) (hn : n ≤ 1048576)
    (hK : ∀ w', OwnTTT w' w.heap.size (.slice (some ⟨w.heap.size, 0, none⟩) n n) (List.replicate n []) [w.heap.size] → Below w.heap.size w w' → wpList Tryz.prog ops Q rest (a.put o.dst (.slice (some ⟨w.heap.size, 0, none⟩) n n)) w') : wpList Tryz.prog ops Q (o :: rest) a w := by
  obtain ⟨i0, hi, hz0, hz1, hz2⟩ := info_parts lets3_info
  refine wpList_plain hg fun K hK' => ?_
  have hr := run_make (P := Tryz.prog) w 64 146 i0 (.slice none 0 0) Tryz.underlying64 hi hz0 .i64 .i64 n n (by omega) (Int.le_refl _) (by rw [hz2]; omega) (by omega)
  rw [hz1] at hr
  simp only [Int.toNat_natCast] at hr
  rw [show (Value.slice none 0 0).cells = #[Value.slice none 0 0] from rfl, made_rep] at hr
  unfold Oper.wp
  simp only [execOp, hop, hl, hc, Sem.run_bind, hr, Result.andThen_ok, Sem.run_pure]
  refine hK' _ _ (hK _ ?_ (below_alloc _ _))
  have := OwnRows.made (R := OwnTT) (e := 146) n (by simp [maxLen]; omega) ownTT_nil w
  rw [List.toArray_replicate] at this
  exact this
end
set_option maxHeartbeats 2000000 in
theorem toLetterSSS_any (v : Value) (ess : List (List (List (Int × Int)))) (w : World) (h : EndSSS w v ess) (hl : szT3 ess ≤ 1048576) :
    Calls Tryz.prog 91 #[v] w fun e w' => ∃ g S, e = .returned (.slice (some ⟨g, 0, none⟩) ess.length ess.length) ∧ OwnTTT w' w.heap.size (.slice (some ⟨g, 0, none⟩) ess.length ess.length) ess S ∧ Below w.heap.size w w' := by
  obtain ⟨A, c, rfl, hlc, hm, hA⟩ := h
  unfold maxLen at hm
  have HA := Lib.hid hA
  clear hA
  have hl1 : ess.length ≤ 1048576 := by unfold szT3 at hl; omega
  have Hl := Lib.hid hl
  clear hl
  go_enter Tryz.func91, Tryz.ntmps91
  go_wp2_with (at_make; refine mk_letrows3 _ rfl _ _ rfl ess.length rfl rfl hl1 ?_; intro w1 ho1 hb1)
  go_loopw [4] (fun i wr => ∃ (k : Nat) (S : List Nat), k ≤ ess.length ∧ i = .int .i64 k ∧ OwnTTT wr w.heap.size (.slice (some ⟨w.heap.size, 0, none⟩) ess.length ess.length) (ess.take k ++ List.replicate (ess.length - k) []) S ∧ Below w.heap.size w wr) (fun i _ => ess.length - (intOf i).toNat)
  case atStart => exact ⟨0, _, Nat.zero_le _, rfl, by simpa using ho1, hb1⟩
  case round =>
    obtain ⟨k, S, hk, rfl, ho, hb⟩ := hrel
    clear ho1 hb1
    by_cases hlt : k < ess.length
    · obtain ⟨x, hx⟩ := getx ess k hlt
      obtain ⟨b, off, u, rfl, hc1, hu⟩ := HA.out k x hx
      have k1 := bc hb hc1
      have Hu := Lib.hid (hu.keep hb)
      have Ho := Lib.hid ho
      have Hb := Lib.hid hb
      have Hx := Lib.hid hx
      have Hxl : Hid (szEE x ≤ 1048576) := by
        have h1 := szR3_snoc hx
        have h2 := szR3_le ess (k + 1)
        have h3 := Hl.out
        unfold szT3 at h3
        exact show _ ≤ _ by omega
      clear hx hc1 ho hb hu
      go_wp2_with fail
      refine (toLetterSS_any _ x _ Hu.out Hxl.out).mono ?_
      rintro e w2 ⟨g, Sg, rfl, hr2, hb2⟩
      have ho2 := lawTTT.keep Ho.out hb2
      obtain ⟨y, hy⟩ := getx (ess.take k ++ List.replicate (ess.length - k) []) k (by simp; omega)
      obtain ⟨_, _, y1, f1, _⟩ := OwnRows.at_ ho2 hy
      have hS := lawTTT.range Ho.out
      obtain ⟨S3, ho3, _⟩ := OwnRows.store lawTT ho2 k (lawTT.mono hr2 Hb.out.size) (fun j hj hjS => by have := (lawTT.range hr2 j hj).1; have := (hS _ hjS).2; omega)
      rw [set_fill [] ess k x Hx.out] at ho3
      have Ho3 := Lib.hid ho3
      have Hb3 := Lib.hid ((Hb.out.trans (hb2.mono Hb.out.size)).setCell (p := ⟨w.heap.size, k, none⟩) (Nat.le_refl _) (.slice (some ⟨g, 0, none⟩) x.length x.length))
      clear ho2 hy ho3 hb2 hr2 hS
      go_wp2
      go_roundw
      case rel => exact ⟨k + 1, S3, by omega, by simp, Ho3.out, Hb3.out⟩
      case measure => simp [intOf]; omega
    · have e1 : ess.take k ++ List.replicate (ess.length - k) ([] : List (List (Int × Int))) = ess := by rw [List.take_of_length_le (by omega), show ess.length - k = 0 by omega, List.replicate_zero, List.append_nil]
      rw [e1] at ho
      have Ho := Lib.hid ho
      have Hb := Lib.hid hb
      clear ho hb e1
      go_wp2
      go_ret
      exact ⟨_, S, rfl, Ho.out, Hb.out⟩
section
open Go.ChangeShapes Go.WideShapes Go.ChangeAt Go.Joins Go.Deep
variable {H : Type} {enc : TypeId × Value → H} {W : World}
set_option maxRecDepth 100000 in
theorem open_letS {n : Nat} {v : Value} {y : DataW H × List MemPlace} (h : DataW.trod enc Tryz.prog W 0 (fun _ => true) true n 166 [v] = some y) : ∃ es, EndS W v es ∧ Es64 es := by
  rcases open_slice_pairs Tryz.underlying166 Tryz.underlying197 (by kernel_rfl) rfl rfl (by kernel_rfl) (by kernel_rfl) h with ⟨hcs, _⟩ | ⟨a, len, cap, m, n', V0, V1, D0, D1, P0, P1, hcs, _, hl, hm, hmm, _, hall⟩
  · simp at hcs; subst hcs
    exact ⟨[], ⟨none, 0, rfl, Nat.le_refl _, Nat.zero_le _, fun k e hk => by simp at hk⟩, by simp [Es64]⟩
  · simp at hcs; subst hcs
    simp only [if_true] at hmm
    subst hmm
    have each : ∀ i, i < m → ∃ x z, W.cell? (a.add (i * 2)) = some (.int .i64 x) ∧ W.cell? (a.add (i * 2 + 1)) = some (.int .i64 z) ∧ intOf (V0 i) = x ∧ intOf (V1 i) = z ∧ (-9223372036854775808 ≤ x ∧ x ≤ 9223372036854775807) ∧ (-9223372036854775808 ≤ z ∧ z ≤ 9223372036854775807) := fun i hi => by
      obtain ⟨h1, h2, h3, h4⟩ := hall i hi
      obtain ⟨x, hx, _, wx⟩ := DataW.trod_int Tryz.underlying3 h3
      obtain ⟨z, hz, _, wz⟩ := DataW.trod_int Tryz.underlying3 h4
      simp at hx hz
      exact ⟨x, z, by rw [h1, hx], by rw [h2, hz], by rw [hx]; rfl, by rw [hz]; rfl, wf_i64 wx, wf_i64 wz⟩
    refine ⟨(List.range len).map fun i => (intOf (V0 i), intOf (V1 i)), ⟨some a, m, by simp, by simpa using hl, hm, fun k e hk => ?_⟩, fun e he => ?_⟩
    · have hk' : k < len := by have := lt_of_get hk; simpa using this
      obtain ⟨x, z, h1, h2, e1, e2, _⟩ := each k (by omega)
      obtain ⟨_, _, g1, _⟩ := each 0 (by omega)
      obtain ⟨b, off, rfl⟩ := plain_of_cell g1
      rw [add_plain] at h1 h2
      simp [hk'] at hk
      subst hk
      exact ⟨b, off, rfl, by rw [h1, e1], by rw [Nat.add_assoc, h2, e2]⟩
    · obtain ⟨k, hk, rfl⟩ := List.mem_map.1 he
      obtain ⟨x, z, _, _, e1, e2, b1, b2⟩ := each k (by have := List.mem_range.1 hk; omega)
      rw [e1, e2]
      exact ⟨b1, b2⟩
set_option maxRecDepth 100000 in
theorem open_letSS {n : Nat} {v : Value} {y : DataW H × List MemPlace} (h : DataW.trod enc Tryz.prog W 0 (fun _ => true) true n 143 [v] = some y) : ∃ ess, EndSS W v ess ∧ ∀ es ∈ ess, Es64 es := by
  rcases open_slice Tryz.underlying143 h with ⟨hcs, _⟩ | ⟨a, len, cap, m, n', D, Pl, hcs, _, hl, hm, hmm, _, hall⟩
  · simp at hcs; subst hcs
    exact ⟨[], ⟨none, 0, rfl, Nat.le_refl _, Nat.zero_le _, fun k e hk => by simp at hk⟩, by simp⟩
  · simp at hcs; subst hcs
    simp only [if_true] at hmm
    subst hmm
    have hc1 : Tryz.prog.cellsOf 166 = 1 := by kernel_rfl
    have each : ∀ i, ∃ u es, i < m → W.cell? (a.add i) = some u ∧ EndS W u es ∧ Es64 es := fun i => by
      by_cases hi : i < m
      · obtain ⟨cs', h1, h2⟩ := hall i hi
        rw [hc1, Nat.mul_one] at h1
        obtain ⟨_, hlen, hcell⟩ := World.cells?_some h1
        match cs', hlen with
        | [u], _ =>
          have := hcell 0 (by omega)
          obtain ⟨es, h3, h4⟩ := open_letS h2
          refine ⟨u, es, fun _ => ⟨?_, h3, h4⟩⟩
          simpa [Addr.add] using this
      · exact ⟨.bool true, [], fun h => absurd h hi⟩
    obtain ⟨U, hU⟩ := Classical.axiomOfChoice each
    obtain ⟨E, hE⟩ := Classical.axiomOfChoice hU
    refine ⟨(List.range len).map E, ⟨some a, m, by simp, by simpa using hl, hm, fun k e hk => ?_⟩, fun e he => ?_⟩
    · have hk' : k < len := by have := lt_of_get hk; simpa using this
      obtain ⟨h1, h2, _⟩ := hE k (by omega)
      obtain ⟨b, off, rfl⟩ := plain_of_cell (hE 0 (by omega)).1
      rw [add_plain] at h1
      simp [hk'] at hk
      subst hk
      exact ⟨b, off, U k, rfl, h1, h2⟩
    · obtain ⟨k, hk, rfl⟩ := List.mem_map.1 he
      exact (hE k (by have := List.mem_range.1 hk; omega)).2.2
set_option maxRecDepth 100000 in
theorem open_letSSS {n : Nat} {v : Value} {y : DataW H × List MemPlace} (h : DataW.trod enc Tryz.prog W 0 (fun _ => true) true n 54 [v] = some y) : ∃ ess, EndSSS W v ess ∧ ∀ es ∈ ess, Ess64 es := by
  rcases open_slice Tryz.underlying54 h with ⟨hcs, _⟩ | ⟨a, len, cap, m, n', D, Pl, hcs, _, hl, hm, hmm, _, hall⟩
  · simp at hcs; subst hcs
    exact ⟨[], ⟨none, 0, rfl, Nat.le_refl _, Nat.zero_le _, fun k e hk => by simp at hk⟩, by simp⟩
  · simp at hcs; subst hcs
    simp only [if_true] at hmm
    subst hmm
    have hc1 : Tryz.prog.cellsOf 143 = 1 := by kernel_rfl
    have each : ∀ i, ∃ u es, i < m → W.cell? (a.add i) = some u ∧ EndSS W u es ∧ Ess64 es := fun i => by
      by_cases hi : i < m
      · obtain ⟨cs', h1, h2⟩ := hall i hi
        rw [hc1, Nat.mul_one] at h1
        obtain ⟨_, hlen, hcell⟩ := World.cells?_some h1
        match cs', hlen with
        | [u], _ =>
          have := hcell 0 (by omega)
          obtain ⟨es, h3, h4⟩ := open_letSS h2
          refine ⟨u, es, fun _ => ⟨?_, h3, h4⟩⟩
          simpa [Addr.add] using this
      · exact ⟨.bool true, [], fun h => absurd h hi⟩
    obtain ⟨U, hU⟩ := Classical.axiomOfChoice each
    obtain ⟨E, hE⟩ := Classical.axiomOfChoice hU
    refine ⟨(List.range len).map E, ⟨some a, m, by simp, by simpa using hl, hm, fun k e hk => ?_⟩, fun e he => ?_⟩
    · have hk' : k < len := by have := lt_of_get hk; simpa using this
      obtain ⟨h1, h2, _⟩ := hE k (by omega)
      obtain ⟨b, off, rfl⟩ := plain_of_cell (hE 0 (by omega)).1
      rw [add_plain] at h1
      simp [hk'] at hk
      subst hk
      exact ⟨b, off, U k, rfl, h1, h2⟩
    · obtain ⟨k, hk, rfl⟩ := List.mem_map.1 he
      exact (hE k (by have := List.mem_range.1 hk; omega)).2.2
end
end Go.Proofs.YtlfehdikgbgloaaGreat
namespace Go.Proofs.YtlfehdikgbgloaaGreat
open Go.RowKit
/-! states of asynchronous runs (written by tools/asygen.py) -/
structure ASt where
  rounds : List Int
  before : List Int
  now : List Int
  slots : List (List Int)
  flight : List (List (List (Int × Int)))
def AsIn (w : World) (a b c d f : Value) (x : ASt) : Prop := IntS w a x.rounds ∧ IntS w b x.before ∧ IntS w c x.now ∧ IntSS w d x.slots ∧ EndSSS w f x.flight
theorem AsIn.keep {w w' : World} {a b c d f : Value} {x : ASt} (h : AsIn w a b c d f x) (hb : Below w.heap.size w w') : AsIn w' a b c d f x := ⟨h.1.keep hb, h.2.1.keep hb, h.2.2.1.keep hb, h.2.2.2.1.keep hb, h.2.2.2.2.keep hb⟩
def szAs (x : ASt) : Nat := x.rounds.length + x.before.length + x.now.length + szII x.slots + szT3 x.flight
set_option maxHeartbeats 4000000 in
theorem szAsyncState_any (a b c d f : Value) (x : ASt) (l : Int) (hl : 0 ≤ l) (hl2 : l ≤ 1048576) (w : World) (h : AsIn w a b c d f x) : Calls Tryz.prog 33 #[.agg #[a, b, c, d, f], .int .i64 l] w fun e w' => e = .returned (.int .i64 (left l (szAs x))) ∧ Below w.heap.size w w' := by
  have hb0 : Below w.heap.size w (w.alloc (.cells #[a, b, c, d, f] 56)) := below_alloc _ _
  obtain ⟨h1, h2, h3, h4, h5⟩ := h.keep hb0
  have H1 := Lib.hid h1
  have H2 := Lib.hid h2
  have H3 := Lib.hid h3
  have H4 := Lib.hid h4
  have H5 := Lib.hid h5
  have Hb0 := Lib.hid hb0
  obtain ⟨A1, z1, rfl, _⟩ := h1
  obtain ⟨A2, z2, rfl, _⟩ := h2
  obtain ⟨A3, z3, rfl, _⟩ := h3
  obtain ⟨A4, z4, rfl, _⟩ := h4
  obtain ⟨A5, z5, rfl, _⟩ := h5
  clear h hb0
  by_cases c1 : l - (x.rounds.length : Nat) < 0
  · have hr := Lib.hid (show left l (szAs x) = -1 from left_neg (n := x.rounds.length) (by omega) (by unfold szAs; omega))
    have e1 : left l (x.rounds.length) = -1 := left_neg c1 (Nat.le_refl _)
    go_enter Tryz.func33, Tryz.ntmps33
    go_wp2_with fail
    refine (szIntS_any _ x.rounds l hl hl2 _ H1.out).mono ?_
    rw [e1]
    rintro e w' ⟨rfl, rfl⟩
    go_wp2
    go_ret
    exact ⟨ret_int hr.out.symm, Hb0.out⟩
  · have e1 : left l (x.rounds.length) = l - (x.rounds.length : Nat) := left_pos c1
    obtain ⟨t1, ht1⟩ : ∃ t, t = l - (x.rounds.length : Nat) := ⟨_, rfl⟩
    rw [← ht1] at e1 c1
    have hp1 : 0 ≤ t1 := by omega
    have hq1 : t1 ≤ 1048576 := by omega
    by_cases c2 : t1 - (x.before.length : Nat) < 0
    · have hr := Lib.hid (show left l (szAs x) = -1 from left_neg (n := x.rounds.length + x.before.length) (by omega) (by unfold szAs; omega))
      have e2 : left t1 (x.before.length) = -1 := left_neg c2 (Nat.le_refl _)
      have Ht1 := Lib.hid ht1
      clear ht1
      go_enter Tryz.func33, Tryz.ntmps33
      go_wp2_with fail
      refine (szIntS_any _ x.rounds l hl hl2 _ H1.out).mono ?_
      rw [e1]
      rintro e w' ⟨rfl, rfl⟩
      go_wp2_with fail
      refine (szIntS_any _ x.before t1 hp1 hq1 _ H2.out).mono ?_
      rw [e2]
      rintro e w' ⟨rfl, rfl⟩
      go_wp2
      go_ret
      exact ⟨ret_int hr.out.symm, Hb0.out⟩
    · have e2 : left t1 (x.before.length) = t1 - (x.before.length : Nat) := left_pos c2
      obtain ⟨t2, ht2⟩ : ∃ t, t = t1 - (x.before.length : Nat) := ⟨_, rfl⟩
      rw [← ht2] at e2 c2
      have hp2 : 0 ≤ t2 := by omega
      have hq2 : t2 ≤ 1048576 := by omega
      by_cases c3 : t2 - (x.now.length : Nat) < 0
      · have hr := Lib.hid (show left l (szAs x) = -1 from left_neg (n := x.rounds.length + x.before.length + x.now.length) (by omega) (by unfold szAs; omega))
        have e3 : left t2 (x.now.length) = -1 := left_neg c3 (Nat.le_refl _)
        have Ht1 := Lib.hid ht1
        clear ht1
        have Ht2 := Lib.hid ht2
        clear ht2
        go_enter Tryz.func33, Tryz.ntmps33
        go_wp2_with fail
        refine (szIntS_any _ x.rounds l hl hl2 _ H1.out).mono ?_
        rw [e1]
        rintro e w' ⟨rfl, rfl⟩
        go_wp2_with fail
        refine (szIntS_any _ x.before t1 hp1 hq1 _ H2.out).mono ?_
        rw [e2]
        rintro e w' ⟨rfl, rfl⟩
        go_wp2_with fail
        refine (szIntS_any _ x.now t2 hp2 hq2 _ H3.out).mono ?_
        rw [e3]
        rintro e w' ⟨rfl, rfl⟩
        go_wp2
        go_ret
        exact ⟨ret_int hr.out.symm, Hb0.out⟩
      · have e3 : left t2 (x.now.length) = t2 - (x.now.length : Nat) := left_pos c3
        obtain ⟨t3, ht3⟩ : ∃ t, t = t2 - (x.now.length : Nat) := ⟨_, rfl⟩
        rw [← ht3] at e3 c3
        have hp3 : 0 ≤ t3 := by omega
        have hq3 : t3 ≤ 1048576 := by omega
        by_cases c4 : t3 - (szII x.slots : Nat) < 0
        · have hr := Lib.hid (show left l (szAs x) = -1 from left_neg (n := x.rounds.length + x.before.length + x.now.length + szII x.slots) (by omega) (by unfold szAs; omega))
          have e4 : left t3 (szII x.slots) = -1 := left_neg c4 (Nat.le_refl _)
          have Ht1 := Lib.hid ht1
          clear ht1
          have Ht2 := Lib.hid ht2
          clear ht2
          have Ht3 := Lib.hid ht3
          clear ht3
          go_enter Tryz.func33, Tryz.ntmps33
          go_wp2_with fail
          refine (szIntS_any _ x.rounds l hl hl2 _ H1.out).mono ?_
          rw [e1]
          rintro e w' ⟨rfl, rfl⟩
          go_wp2_with fail
          refine (szIntS_any _ x.before t1 hp1 hq1 _ H2.out).mono ?_
          rw [e2]
          rintro e w' ⟨rfl, rfl⟩
          go_wp2_with fail
          refine (szIntS_any _ x.now t2 hp2 hq2 _ H3.out).mono ?_
          rw [e3]
          rintro e w' ⟨rfl, rfl⟩
          go_wp2_with fail
          refine (szIntSS_any _ x.slots t3 hp3 hq3 _ H4.out).mono ?_
          rw [e4]
          rintro e w' ⟨rfl, rfl⟩
          go_wp2
          go_ret
          exact ⟨ret_int hr.out.symm, Hb0.out⟩
        · have e4 : left t3 (szII x.slots) = t3 - (szII x.slots : Nat) := left_pos c4
          obtain ⟨t4, ht4⟩ : ∃ t, t = t3 - (szII x.slots : Nat) := ⟨_, rfl⟩
          rw [← ht4] at e4 c4
          have hp4 : 0 ≤ t4 := by omega
          have hq4 : t4 ≤ 1048576 := by omega
          obtain ⟨q, hq⟩ : ∃ q, q = left t4 (szT3 x.flight) := ⟨_, rfl⟩
          have hr := Lib.hid (show left l (szAs x) = q by rw [hq]; unfold left szAs; split <;> split <;> omega)
          by_cases c9 : q < 0
          · have hq1 : q = -1 := by rw [hq]; unfold left; split <;> (unfold left at hq; split at hq <;> omega)
            have Ht1 := Lib.hid ht1
            clear ht1
            have Ht2 := Lib.hid ht2
            clear ht2
            have Ht3 := Lib.hid ht3
            clear ht3
            have Ht4 := Lib.hid ht4
            clear ht4
            have Hq := Lib.hid hq
            clear hq
            subst hq1
            go_enter Tryz.func33, Tryz.ntmps33
            go_wp2_with fail
            refine (szIntS_any _ x.rounds l hl hl2 _ H1.out).mono ?_
            rw [e1]
            rintro e w' ⟨rfl, rfl⟩
            go_wp2_with fail
            refine (szIntS_any _ x.before t1 hp1 hq1 _ H2.out).mono ?_
            rw [e2]
            rintro e w' ⟨rfl, rfl⟩
            go_wp2_with fail
            refine (szIntS_any _ x.now t2 hp2 hq2 _ H3.out).mono ?_
            rw [e3]
            rintro e w' ⟨rfl, rfl⟩
            go_wp2_with fail
            refine (szIntSS_any _ x.slots t3 hp3 hq3 _ H4.out).mono ?_
            rw [e4]
            rintro e w' ⟨rfl, rfl⟩
            go_wp2_with fail
            refine (szLetterSSS_any _ x.flight t4 hp4 hq4 _ H5.out).mono ?_
            rw [← Hq.out]
            rintro e w' ⟨rfl, rfl⟩
            go_wp2
            go_ret
            exact ⟨ret_int hr.out.symm, Hb0.out⟩
          · skip
            have Ht1 := Lib.hid ht1
            clear ht1
            have Ht2 := Lib.hid ht2
            clear ht2
            have Ht3 := Lib.hid ht3
            clear ht3
            have Ht4 := Lib.hid ht4
            clear ht4
            have Hq := Lib.hid hq
            clear hq
            go_enter Tryz.func33, Tryz.ntmps33
            go_wp2_with fail
            refine (szIntS_any _ x.rounds l hl hl2 _ H1.out).mono ?_
            rw [e1]
            rintro e w' ⟨rfl, rfl⟩
            go_wp2_with fail
            refine (szIntS_any _ x.before t1 hp1 hq1 _ H2.out).mono ?_
            rw [e2]
            rintro e w' ⟨rfl, rfl⟩
            go_wp2_with fail
            refine (szIntS_any _ x.now t2 hp2 hq2 _ H3.out).mono ?_
            rw [e3]
            rintro e w' ⟨rfl, rfl⟩
            go_wp2_with fail
            refine (szIntSS_any _ x.slots t3 hp3 hq3 _ H4.out).mono ?_
            rw [e4]
            rintro e w' ⟨rfl, rfl⟩
            go_wp2_with fail
            refine (szLetterSSS_any _ x.flight t4 hp4 hq4 _ H5.out).mono ?_
            rw [← Hq.out]
            rintro e w' ⟨rfl, rfl⟩
            go_wp2
            go_ret
            exact ⟨ret_int hr.out.symm, Hb0.out⟩
set_option maxHeartbeats 4000000 in
theorem eqAsyncState_same (a b c d f a' b' c' d' f' : Value) (x : ASt) (w : World) (h : AsIn w a b c d f x) (h' : AsIn w a' b' c' d' f' x) : Calls Tryz.prog 39 #[.agg #[a, b, c, d, f], .agg #[a', b', c', d', f']] w fun e w' => e = .returned (.bool true) ∧ Below w.heap.size w w' := by
  obtain ⟨A1, z1, hv1, _⟩ := id h.1
  obtain ⟨A2, z2, hv2, _⟩ := id h.2.1
  obtain ⟨A3, z3, hv3, _⟩ := id h.2.2.1
  obtain ⟨A4, z4, hv4, _⟩ := id h.2.2.2.1
  obtain ⟨A5, z5, hv5, _⟩ := id h.2.2.2.2
  obtain ⟨C1, y1, hu1, _⟩ := id h'.1
  obtain ⟨C2, y2, hu2, _⟩ := id h'.2.1
  obtain ⟨C3, y3, hu3, _⟩ := id h'.2.2.1
  obtain ⟨C4, y4, hu4, _⟩ := id h'.2.2.2.1
  obtain ⟨C5, y5, hu5, _⟩ := id h'.2.2.2.2
  obtain ⟨w0, hw0⟩ : ∃ w0, w0 = (w.alloc (.cells #[a, b, c, d, f] 66)).alloc (.cells #[a', b', c', d', f'] 66) := ⟨_, rfl⟩
  have hb0 : Below w.heap.size w w0 := by rw [hw0]; exact ((Below.refl _ _).alloc (Nat.le_refl _) _).alloc (by simp) _
  have p0 : ∀ W, Since w0 W → W.cell? ⟨w.heap.size, 0, none⟩ = some a := fun W hW => bc hW (by rw [hw0]; simp)
  have q0 : ∀ W, Since w0 W → W.cell? ⟨w.heap.size + 1, 0, none⟩ = some a' := fun W hW => bc hW (by rw [hw0]; simp)
  have p1 : ∀ W, Since w0 W → W.cell? ⟨w.heap.size, 1, none⟩ = some b := fun W hW => bc hW (by rw [hw0]; simp)
  have q1 : ∀ W, Since w0 W → W.cell? ⟨w.heap.size + 1, 1, none⟩ = some b' := fun W hW => bc hW (by rw [hw0]; simp)
  have p2 : ∀ W, Since w0 W → W.cell? ⟨w.heap.size, 2, none⟩ = some c := fun W hW => bc hW (by rw [hw0]; simp)
  have q2 : ∀ W, Since w0 W → W.cell? ⟨w.heap.size + 1, 2, none⟩ = some c' := fun W hW => bc hW (by rw [hw0]; simp)
  have p3 : ∀ W, Since w0 W → W.cell? ⟨w.heap.size, 3, none⟩ = some d := fun W hW => bc hW (by rw [hw0]; simp)
  have q3 : ∀ W, Since w0 W → W.cell? ⟨w.heap.size + 1, 3, none⟩ = some d' := fun W hW => bc hW (by rw [hw0]; simp)
  have p4 : ∀ W, Since w0 W → W.cell? ⟨w.heap.size, 4, none⟩ = some f := fun W hW => bc hW (by rw [hw0]; simp)
  have q4 : ∀ W, Since w0 W → W.cell? ⟨w.heap.size + 1, 4, none⟩ = some f' := fun W hW => bc hW (by rw [hw0]; simp)
  have HN := Lib.hid (h.keep hb0)
  have HN' := Lib.hid (h'.keep hb0)
  have Hw0 := Lib.hid hw0
  have Hb0 := Lib.hid hb0
  clear h h' hb0 hw0
  subst hv1 hu1 hv2 hu2 hv3 hu3 hv4 hu4 hv5 hu5
  go_enter Tryz.func39, Tryz.ntmps39
  go_wp2_with fail
  rw [← Hw0.out]
  have hs0 : Since w0 w0 := since_refl _
  refine (eqIntS_b _ _ x.rounds x.rounds _ (by exact (HN.out.keep hs0).1) (by exact (HN'.out.keep hs0).1)).mono ?_
  rw [show eqIs x.rounds x.rounds = true from decide_eq_true rfl]
  rintro e w1 ⟨rfl, hb1⟩
  have hs1 : Since w0 w1 := Since.trans hs0 hb1
  clear hb1
  go_wp2_with fail
  refine (eqIntS_b _ _ x.before x.before _ (by exact (HN.out.keep hs1).2.1) (by exact (HN'.out.keep hs1).2.1)).mono ?_
  rw [show eqIs x.before x.before = true from decide_eq_true rfl]
  rintro e w2 ⟨rfl, hb2⟩
  have hs2 : Since w0 w2 := Since.trans hs1 hb2
  clear hb2
  go_wp2_with fail
  refine (eqIntS_b _ _ x.now x.now _ (by exact (HN.out.keep hs2).2.2.1) (by exact (HN'.out.keep hs2).2.2.1)).mono ?_
  rw [show eqIs x.now x.now = true from decide_eq_true rfl]
  rintro e w3 ⟨rfl, hb3⟩
  have hs3 : Since w0 w3 := Since.trans hs2 hb3
  clear hb3
  go_wp2_with fail
  refine (eqIntSS_any _ _ x.slots x.slots _ (by exact (HN.out.keep hs3).2.2.2.1) (by exact (HN'.out.keep hs3).2.2.2.1)).mono ?_
  rw [decide_eq_true rfl]
  rintro e w4 ⟨rfl, hb4⟩
  have hs4 : Since w0 w4 := Since.trans hs3 hb4
  clear hb4
  go_wp2_with fail
  refine (eqLetterSSS_any _ _ x.flight x.flight _ (by exact (HN.out.keep hs4).2.2.2.2) (by exact (HN'.out.keep hs4).2.2.2.2)).mono ?_
  rw [decide_eq_true rfl]
  rintro e w5 ⟨rfl, hb5⟩
  have hs5 : Since w0 w5 := Since.trans hs4 hb5
  clear hb5
  go_wp2
  go_ret
  exact ⟨rfl, Hb0.out.trans (hs5.mono Hb0.out.size)⟩
end Go.Proofs.YtlfehdikgbgloaaGreat
