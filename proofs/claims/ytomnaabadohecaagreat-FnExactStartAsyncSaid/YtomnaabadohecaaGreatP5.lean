/- Parts of the proof: walks of functions and plain laws. -/
import Derived.Test.YtomnaabadohecaaGreatP4
namespace Go.Proofs.YtomnaabadohecaaGreat
open Go.RowKit
/-! rows of letters: the twins of the rows of ends (written by tools/letgen.py) -/
/-- a row of ends -/
def OwnT : World → Nat → Value → List (Int × Int) → List Nat → Prop := LeafR 224 2 encE
theorem lawT : RowLaw OwnT := leaf_law _ _ _
/-- a row of rows of ends -/
def OwnTT : World → Nat → Value → List (List (Int × Int)) → List Nat → Prop := OwnRows 196 OwnT
theorem lawTT : RowLaw OwnTT := rows_law _ lawT
theorem OwnT.read {w : World} {base : Nat} {v : Value} {es : List (Int × Int)} {S : List Nat} (h : OwnT w base v es S) : EndS w v es := by
  obtain ⟨h, hS⟩ := h
  rcases ownsRow_cases h with ⟨rfl, h0⟩ | ⟨g, c, rfl, hb, hg, hc, hm⟩
  · obtain rfl : es = [] := List.eq_nil_of_length_eq_zero h0
    exact ⟨none, 0, rfl, Nat.le_refl _, Nat.zero_le _, fun k x hk => by simp at hk⟩
  · refine ⟨_, c, rfl, hc, hm, fun k x hk => ⟨g, 0, rfl, ?_, ?_⟩⟩
    · have := lt_of_get hk
      rw [Nat.zero_add, h.cellAt (cap := c) _ (by omega)]; exact (encE_get hk).1
    · have := lt_of_get hk
      rw [Nat.zero_add, h.cellAt (cap := c) _ (by omega)]; exact (encE_get hk).2
theorem OwnTT.read {w : World} {base : Nat} {v : Value} {ess : List (List (Int × Int))} {S : List Nat} (h : OwnTT w base v ess S) : EndSS w v ess := by
  obtain ⟨vs, Ss, h1, h2, h3, h4, h5⟩ := h
  rcases ownsRow_cases h1 with ⟨rfl, h0⟩ | ⟨g, c, rfl, hb, hg, hc, hm⟩
  · obtain rfl : ess = [] := List.eq_nil_of_length_eq_zero h0
    exact ⟨none, 0, rfl, Nat.le_refl _, Nat.zero_le _, fun k x hk => by simp at hk⟩
  · have hvl : vs.length = ess.length := by simpa using h1.1
    refine ⟨_, c, rfl, hc, hm, fun k x hk => ?_⟩
    have hlt := lt_of_get hk
    obtain ⟨u, hu⟩ := getx vs k (by omega)
    obtain ⟨T, hT⟩ := getx Ss k (by omega)
    exact ⟨g, 0, u, rfl, by rw [Nat.zero_add, h1.cellAt (cap := c) _ (by omega)]; exact hu, OwnT.read (h3 k u x T hu hk hT)⟩
theorem lets_info : (Tryz.prog.info? 196).map (fun i => (i.zero, i.size, i.bytes)) = some (some (.slice none 0 0), 1, 24) := by kernel_rfl
theorem ownT_nil (w : World) (base : Nat) : OwnT w base (.slice none 0 0) [] [] := ⟨World.ownsRow_nil w base _ _, rfl⟩
theorem eqLetter_any (a b c d : Int) (w : World) :
    Calls Tryz.prog 249 #[.agg #[.int .i64 a, .int .i64 b], .agg #[.int .i64 c, .int .i64 d]] w fun e w' => e = .returned (.bool (eqE (a, b) (c, d))) ∧ Below w.heap.size w w' := by
  cases h1 : (a != c)
  · cases h2 : (b != d)
    · have hr := Lib.hid (show eqE (a, b) (c, d) = true by simp at h1 h2; simp [eqE, h1, h2])
      go_enter Tryz.func249, Tryz.ntmps249
      go_wp2
      go_ret
      exact ⟨ret_true hr.out, ((Below.refl _ _).alloc (Nat.le_refl _) _).alloc (by simp) _⟩
    · have hr := Lib.hid (show eqE (a, b) (c, d) = false by simp at h1 h2; simp [eqE, h2])
      go_enter Tryz.func249, Tryz.ntmps249
      go_wp2
      go_ret
      exact ⟨ret_false hr.out, ((Below.refl _ _).alloc (Nat.le_refl _) _).alloc (by simp) _⟩
  · have hr := Lib.hid (show eqE (a, b) (c, d) = false by simp at h1; simp [eqE, h1])
    go_enter Tryz.func249, Tryz.ntmps249
    go_wp2
    go_ret
    exact ⟨ret_false hr.out, ((Below.refl _ _).alloc (Nat.le_refl _) _).alloc (by simp) _⟩
theorem eqLetterS_any (v u : Value) (xs ys : List (Int × Int)) (w : World) (h : EndS w v xs) (h' : EndS w u ys) :
    Calls Tryz.prog 198 #[v, u] w fun e w' => e = .returned (.bool (decide (xs = ys))) ∧ Below w.heap.size w w' := by
  obtain ⟨A, c, rfl, hlc, hm, hA⟩ := h
  obtain ⟨B, d, rfl, hld, hmd, hB⟩ := h'
  unfold maxLen at hm hmd
  have HA := Lib.hid hA
  have HB := Lib.hid hB
  clear hA hB
  by_cases hl : xs.length = ys.length
  · have Hl := Lib.hid hl
    have hl1 : xs.length ≤ ys.length := by omega
    have hl2 : ys.length ≤ xs.length := by omega
    have hb : ((xs.length : Int) != (ys.length : Int)) = false := by simp [hl]
    clear hl
    go_enter Tryz.func198, Tryz.ntmps198
    go_wp2
    go_loopw [5] (fun i wr => ∃ k : Nat, k ≤ xs.length ∧ i = .int .i64 k ∧ xs.take k = ys.take k ∧ Below w.heap.size w wr) (fun i _ => xs.length - (intOf i).toNat)
    case atStart => exact ⟨0, Nat.zero_le _, rfl, by simp, Below.refl _ _⟩
    case round =>
      obtain ⟨k, hk, rfl, heq, hbl⟩ := hrel
      have Heq := Lib.hid heq
      have Hbl := Lib.hid hbl
      clear heq hbl
      by_cases hlt : k < xs.length
      · have hlt2 : k < ys.length := by omega
        obtain ⟨x, hx⟩ := getx xs k hlt
        obtain ⟨y, hy⟩ := getx ys k hlt2
        obtain ⟨b, off, rfl, hc1, hc2⟩ := HA.out k x hx
        obtain ⟨b', off', rfl, hc3, hc4⟩ := HB.out k y hy
        have k1 := bc Hbl.out hc1
        have k2 := bc Hbl.out hc2
        have k3 := bc Hbl.out hc3
        have k4 := bc Hbl.out hc4
        clear hc1 hc2 hc3 hc4
        have Hx := Lib.hid hx
        have Hy := Lib.hid hy
        clear hx hy
        cases hxy : eqE x y
        all_goals
          have Hxy := Lib.hid hxy
          clear hxy
          go_wp2
          go_region_held3 (fun w' => w'.cell? ⟨b, off + k * 2, none⟩ = some (.int .i64 x.1) ∧ w'.cell? ⟨b, off + k * 2 + 1, none⟩ = some (.int .i64 x.2) ∧ w'.cell? ⟨b', off' + k * 2, none⟩ = some (.int .i64 y.1) ∧ w'.cell? ⟨b', off' + k * 2 + 1, none⟩ = some (.int .i64 y.2)) (first | exact ⟨k1, k2, k3, k4⟩ | exact ⟨bc hb1 k1, bc hb1 k2, bc hb1 k3, bc hb1 k4⟩)
            (first | (go_at_call 249; refine (eqLetter_any _ _ _ _ _).mono ?_; rintro e w1 ⟨rfl, hb1⟩; rw [Hxy.out]))
          have Hb2 := Lib.hid (Hbl.out.drew.trans (hb1.mono (show w.heap.size ≤ wr.heap.size from Hbl.out.size)))
          clear hb1
          go_wp2
        · go_ret
          refine ⟨ret_false (decide_eq_false fun e => ?_), Hb2.out⟩
          have h1 := Hx.out
          rw [e, Hy.out] at h1
          have h2 := Hxy.out
          simp [eqE] at h1 h2
          exact h2 h1.symm
        · go_roundw
          case rel => exact ⟨k + 1, by omega, by go_num, by rw [take_snoc Hx.out, take_snoc Hy.out, Heq.out, show x = y by simpa [eqE] using Hxy.out], Hb2.out⟩
          case measure => simp [intOf]; omega
      · go_wp2
        go_ret
        exact ⟨ret_true (decide_eq_true (eq_of_takes Hl.out Heq.out hlt)), Hbl.out⟩
  · have hb : ((xs.length : Int) != (ys.length : Int)) = true := by simp; omega
    have Hl := Lib.hid hl
    clear hl
    go_enter Tryz.func198, Tryz.ntmps198
    go_wp2
    go_ret
    exact ⟨ret_false (decide_eq_false fun e => Hl.out (by rw [e])), Below.refl _ _⟩
theorem eqLetterS_b (v u : Value) (xs ys : List (Int × Int)) (w : World) (h : EndS w v xs) (h' : EndS w u ys) :
    Calls Tryz.prog 198 #[v, u] w fun e w' => e = .returned (.bool (eqES xs ys)) ∧ Below w.heap.size w w' := eqLetterS_any v u xs ys w h h'
theorem eqLetterSS_any (v u : Value) (xs ys : List (List (Int × Int))) (w : World) (h : EndSS w v xs) (h' : EndSS w u ys) :
    Calls Tryz.prog 134 #[v, u] w fun e w' => e = .returned (.bool (decide (xs = ys))) ∧ Below w.heap.size w w' := by
  obtain ⟨A, c, rfl, hlc, hm, hA⟩ := h
  obtain ⟨B, d, rfl, hld, hmd, hB⟩ := h'
  unfold maxLen at hm hmd
  have HA := Lib.hid hA
  have HB := Lib.hid hB
  clear hA hB
  by_cases hl : xs.length = ys.length
  · have Hl := Lib.hid hl
    have hl1 : xs.length ≤ ys.length := by omega
    have hl2 : ys.length ≤ xs.length := by omega
    have hb : ((xs.length : Int) != (ys.length : Int)) = false := by simp [hl]
    clear hl
    go_enter Tryz.func134, Tryz.ntmps134
    go_wp2
    go_loopw [5] (fun i wr => ∃ k : Nat, k ≤ xs.length ∧ i = .int .i64 k ∧ xs.take k = ys.take k ∧ Below w.heap.size w wr) (fun i _ => xs.length - (intOf i).toNat)
    case atStart => exact ⟨0, Nat.zero_le _, rfl, by simp, Below.refl _ _⟩
    case round =>
      obtain ⟨k, hk, rfl, heq, hbl⟩ := hrel
      have Heq := Lib.hid heq
      have Hbl := Lib.hid hbl
      clear heq hbl
      by_cases hlt : k < xs.length
      · have hlt2 : k < ys.length := by omega
        obtain ⟨x, hx⟩ := getx xs k hlt
        obtain ⟨y, hy⟩ := getx ys k hlt2
        obtain ⟨b, off, u1, rfl, hc1, hr1⟩ := HA.out k x hx
        obtain ⟨b', off', u2, rfl, hc2, hr2⟩ := HB.out k y hy
        have k1 := bc Hbl.out hc1
        have k2 := bc Hbl.out hc2
        have Hr1 := Lib.hid (hr1.keep Hbl.out)
        have Hr2 := Lib.hid (hr2.keep Hbl.out)
        obtain ⟨A1, z1, rfl, _⟩ := hr1
        obtain ⟨A2, z2, rfl, _⟩ := hr2
        clear hc1 hc2
        have Hx := Lib.hid hx
        have Hy := Lib.hid hy
        clear hx hy
        cases hxy : eqES x y
        all_goals
          have Hxy := Lib.hid hxy
          clear hxy
          go_wp2
          go_region_held3 (fun w' => w'.cell? ⟨b, off + k, none⟩ = some (.slice A1 x.length z1) ∧ w'.cell? ⟨b', off' + k, none⟩ = some (.slice A2 y.length z2)) (first | exact ⟨k1, k2⟩ | exact ⟨bc hb1 k1, bc hb1 k2⟩)
            (first | (go_at_call 198; refine (eqLetterS_b _ _ x y _ (by exact Hr1.out) (by exact Hr2.out)).mono ?_; rintro e w1 ⟨rfl, hb1⟩; rw [Hxy.out]))
          have Hb2 := Lib.hid (Hbl.out.drew.trans (hb1.mono (show w.heap.size ≤ wr.heap.size from Hbl.out.size)))
          clear hb1
          go_wp2
        · go_ret
          refine ⟨ret_false (decide_eq_false fun e => ?_), Hb2.out⟩
          have h1 := Hx.out
          rw [e, Hy.out] at h1
          have h2 := Hxy.out
          simp [eqES] at h1 h2
          exact h2 h1.symm
        · go_roundw
          case rel => exact ⟨k + 1, by omega, by go_num, by rw [take_snoc Hx.out, take_snoc Hy.out, Heq.out, show x = y by simpa [eqES] using Hxy.out], Hb2.out⟩
          case measure => simp [intOf]; omega
      · go_wp2
        go_ret
        exact ⟨ret_true (decide_eq_true (eq_of_takes Hl.out Heq.out hlt)), Hbl.out⟩
  · have hb : ((xs.length : Int) != (ys.length : Int)) = true := by simp; omega
    have Hl := Lib.hid hl
    clear hl
    go_enter Tryz.func134, Tryz.ntmps134
    go_wp2
    go_ret
    exact ⟨ret_false (decide_eq_false fun e => Hl.out (by rw [e])), Below.refl _ _⟩
theorem eqLetterSS_b (v u : Value) (xs ys : List (List (Int × Int))) (w : World) (h : EndSS w v xs) (h' : EndSS w u ys) :
    Calls Tryz.prog 134 #[v, u] w fun e w' => e = .returned (.bool (eqEE xs ys)) ∧ Below w.heap.size w w' := eqLetterSS_any v u xs ys w h h'
theorem OwnT.cells {w : World} {base g c n : Nat} {es : List (Int × Int)} {S : List Nat} (h : OwnT w base (.slice (some ⟨g, 0, none⟩) n c) es S) {k : Nat} {x : Int × Int} (hx : es[k]? = some x) :
    w.cell? ⟨g, k * 2, none⟩ = some (.int .i64 x.1) ∧ w.cell? ⟨g, k * 2 + 1, none⟩ = some (.int .i64 x.2) ∧ w.frozen? ⟨g, k * 2, none⟩ = false ∧ w.frozen? ⟨g, k * 2 + 1, none⟩ = false := by
  obtain ⟨h, _⟩ := h
  have hn := ownsRow_len h
  subst hn
  have := lt_of_get hx
  exact ⟨by rw [h.cellAt (cap := c) _ (by omega)]; exact (encE_get hx).1, by rw [h.cellAt (cap := c) _ (by omega)]; exact (encE_get hx).2, h.frozenAt _, h.frozenAt _⟩
theorem OwnT.set {w : World} {base g c n : Nat} {es : List (Int × Int)} {S : List Nat} (h : OwnT w base (.slice (some ⟨g, 0, none⟩) n c) es S) {k : Nat} (hk : k < es.length) (x : Int × Int) :
    OwnT ((w.setCell ⟨g, k * 2, none⟩ (.int .i64 x.1)).setCell ⟨g, k * 2 + 1, none⟩ (.int .i64 x.2)) base (.slice (some ⟨g, 0, none⟩) n c) (es.set k x) S := by
  obtain ⟨h, hS⟩ := h
  have hn := ownsRow_len h
  subst hn
  have h1 := (h.stored (k * 2) (.int .i64 x.1)).1
  have h2 := (h1.stored (k * 2 + 1) (.int .i64 x.2)).1
  rw [encE_set x hk] at h2
  refine ⟨?_, hS⟩
  rw [List.length_set]
  exact h2
theorem OwnT.len {w : World} {base : Nat} {A : Option Addr} {n c : Nat} {es : List (Int × Int)} {S : List Nat} (h : OwnT w base (.slice A n c) es S) : n = es.length := by
  rcases ownsRow_cases h.1 with ⟨h1, h0⟩ | ⟨g, c, h1, _⟩
  · cases h1; omega
  · cases h1; rfl
theorem OwnTT.len {w : World} {base : Nat} {A : Option Addr} {n c : Nat} {es : List (List (Int × Int))} {S : List Nat} (h : OwnTT w base (.slice A n c) es S) : n = es.length := by
  obtain ⟨vs, Ss, h1, _⟩ := h
  rcases ownsRow_cases h1 with ⟨h1, h0⟩ | ⟨g, c, h1, _⟩
  · cases h1; omega
  · cases h1; rfl
set_option maxHeartbeats 400000 in
theorem markLetterS_any (v : Value) (es : List (Int × Int)) (k : Nat) (w : World) (base : Nat) (S : List Nat) (h : OwnT w base v es S) (hl : k + 2 * es.length ≤ 4611686018427387904) :
    Calls Tryz.prog 200 #[v, .int .i64 k] w fun e w' => e = .returned (.int .i64 ((k + 2 * es.length : Nat) : Int)) ∧ OwnT w' base v (mkE k es.length) S ∧ Only S w w' := by
  rcases ownsRow_cases h.1 with ⟨rfl, h0⟩ | ⟨g, c, rfl, hb1, hb2, hb3, hb4⟩
  · obtain rfl : es = [] := List.eq_nil_of_length_eq_zero h0
    go_enter Tryz.func200, Tryz.ntmps200
    go_wp2
    go_loop [1, 5] (fun m i => m = .int .i64 k ∧ i = .int .i64 0) (fun _ _ => 0)
    case atStart => exact ⟨rfl, rfl⟩
    case round =>
      obtain ⟨rfl, rfl⟩ := hrel
      go_wp2
      go_ret
      exact ⟨ret_int (by simp), h, Only.refl _ _⟩
  · have hgS : g ∈ S := by rw [h.2]; simp [Value.ownBlock]
    have Ho := Lib.hid h
    have HgS := Lib.hid hgS
    clear h hgS
    unfold maxLen at hb4
    go_enter Tryz.func200, Tryz.ntmps200
    go_wp2
    go_loopw [1, 5] (fun m i wr => ∃ j : Nat, j ≤ es.length ∧ i = .int .i64 j ∧ m = .int .i64 ((k + 2 * j : Nat) : Int) ∧ OwnT wr base (.slice (some ⟨g, 0, none⟩) es.length c) (mkE k j ++ es.drop j) S ∧ Only S w wr) (fun _ i _ => es.length - (intOf i).toNat)
    case atStart => exact ⟨0, Nat.zero_le _, rfl, rfl, by simpa [mkE] using Ho.out, Only.refl _ _⟩
    case round =>
      obtain ⟨j, hj, rfl, rfl, ho, hg⟩ := hrel
      by_cases hlt : j < es.length
      · obtain ⟨y, hy⟩ := getx (mkE k j ++ es.drop j) j (by simp [mkE_len]; omega)
        obtain ⟨c1, c2, f1, f2⟩ := ho.cells hy
        have Ho1 := Lib.hid ho
        have Hg := Lib.hid hg
        clear hy ho hg
        go_wp2
        go_roundw
        case rel =>
          refine ⟨j + 1, by omega, by go_num, by go_num, ?_, (Hg.out.setCell (.inl HgS.out) _).setCell (.inl HgS.out) _⟩
          have := Ho1.out.set (k := j) (by simp [mkE_len]; omega) (((k + 2 * j : Nat) : Int), ((k + 2 * j + 1 : Nat) : Int))
          rw [mkE_set _ _ _ hlt] at this
          simpa using this
        case measure => simp [intOf]; omega
      · obtain rfl : j = es.length := by omega
        have Ho1 := Lib.hid ho
        have Hg := Lib.hid hg
        clear ho hg
        go_wp2
        go_ret
        exact ⟨ret_int (by simp), by have := Ho1.out; rwa [List.drop_length, List.append_nil] at this, Hg.out⟩
theorem heldLetterS_any (v : Value) (k n : Nat) (w : World) (h : EndS w v (mkE k n)) (hl : k + 2 * n ≤ 4611686018427387904) :
    Calls Tryz.prog 201 #[v, .int .i64 k] w fun e w' => e = .returned (.int .i64 ((k + 2 * n : Nat) : Int)) ∧ w = w' := by
  obtain ⟨A, c, rfl, hlc, hm, hA⟩ := h
  rw [mkE_len] at hlc ⊢
  unfold maxLen at hm
  have HA := Lib.hid hA
  clear hA
  go_enter Tryz.func201, Tryz.ntmps201
  go_wp2
  go_loop [1, 5] (fun m i => ∃ j : Nat, j ≤ n ∧ i = .int .i64 j ∧ m = .int .i64 ((k + 2 * j : Nat) : Int)) (fun _ i => n - (intOf i).toNat)
  case atStart => exact ⟨0, Nat.zero_le _, rfl, rfl⟩
  case round =>
    obtain ⟨j, hj, rfl, rfl⟩ := hrel
    by_cases hlt : j < n
    · obtain ⟨b, off, rfl, hc1, hc2⟩ := HA.out j _ (mkE_get hlt)
      go_wp2
      go_round
      case rel => exact ⟨j + 1, by omega, by go_num, by go_num⟩
      case measure => simp [intOf]; omega
    · obtain rfl : j = n := by omega
      go_wp2
      go_ret
      exact ⟨ret_int (by simp), rfl⟩
set_option maxHeartbeats 400000 in
theorem markLetterSS_any (v : Value) (ess : List (List (Int × Int))) (k : Nat) (w : World) (base : Nat) (S : List Nat) (h : OwnTT w base v ess S) (hl : k + cntEE ess ≤ 4611686018427387904) :
    Calls Tryz.prog 138 #[v, .int .i64 k] w fun e w' => e = .returned (.int .i64 ((k + cntEE ess : Nat) : Int)) ∧ OwnTT w' base v (mkEE k ess) S ∧ Only S w w' := by
  rcases (show _ ∨ _ by obtain ⟨vs, Ss, h1, _⟩ := h; exact ownsRow_cases h1) with ⟨rfl, h0⟩ | ⟨g, c, rfl, hb1, hb2, hb3, hb4⟩
  · obtain rfl : ess = [] := List.eq_nil_of_length_eq_zero h0
    go_enter Tryz.func138, Tryz.ntmps138
    go_wp2
    go_loop [1, 5] (fun m i => m = .int .i64 k ∧ i = .int .i64 0) (fun _ _ => 0)
    case atStart => exact ⟨rfl, rfl⟩
    case round =>
      obtain ⟨rfl, rfl⟩ := hrel
      go_wp2
      go_ret
      exact ⟨ret_int (by simp [cntEE]), h, Only.refl _ _⟩
  · have Ho := Lib.hid h
    clear h
    unfold maxLen at hb4
    go_enter Tryz.func138, Tryz.ntmps138
    go_wp2
    go_loopw [1, 5] (fun m i wr => ∃ j : Nat, j ≤ ess.length ∧ i = .int .i64 j ∧ m = .int .i64 ((k + cntEE (ess.take j) : Nat) : Int) ∧ OwnTT wr base (.slice (some ⟨g, 0, none⟩) ess.length c) (mkEE k (ess.take j) ++ ess.drop j) S ∧ Only S w wr) (fun _ i _ => ess.length - (intOf i).toNat)
    case atStart => exact ⟨0, Nat.zero_le _, rfl, rfl, by simpa [mkEE] using Ho.out, Only.refl _ _⟩
    case round =>
      obtain ⟨j, hj, rfl, rfl, ho, hg⟩ := hrel
      have hct := cntEE_take ess j
      by_cases hlt : j < ess.length
      · obtain ⟨es, hes⟩ := getx ess j hlt
        have hct2 := cntEE_take ess (j + 1)
        rw [take_snoc hes, cntEE_append] at hct2
        simp only [cntEE] at hct2
        have hml : (mkEE k (ess.take j)).length = j := by rw [mkEE_len]; simp; omega
        have hy : (mkEE k (ess.take j) ++ ess.drop j)[j]? = some es := by
          rw [List.getElem?_append_right (by omega), hml, Nat.sub_self, List.getElem?_drop]; simpa using hes
        obtain ⟨u, T, hc1, hR, hTS, hback⟩ := OwnRows.touch lawT ho hy
        have Hs := Lib.hid hback
        have HR := Lib.hid hR
        have HTS := Lib.hid hTS
        have Hg := Lib.hid hg
        have Hes := Lib.hid hes
        have Hml := Lib.hid hml
        obtain ⟨A1, n1, z1, rfl⟩ := lawT.one hR
        clear hy ho hg hR hback hes hml hTS
        obtain ⟨cn, hcn⟩ : ∃ cn, cntEE (ess.take j) = cn := ⟨_, rfl⟩
        rw [hcn] at hct2 ⊢
        have Hcn := Lib.hid hcn
        clear hcn hct
        go_wp2_with fail
        refine (markLetterS_any _ es (k + cn) _ base T (by exact HR.out) (by omega)).mono ?_
        rintro e w1 ⟨rfl, ho1, hon⟩
        have Hon := Lib.hid (Hg.out.trans (hon.mono HTS.out))
        have Hrow := Lib.hid (Hs.out _ w1 ho1 hon)
        clear ho1 hon
        go_wp2
        go_roundw
        case rel =>
          refine ⟨j + 1, by omega, by go_num, ?_, ?_, Hon.out⟩
          · rw [take_snoc Hes.out, cntEE_append, Hcn.out]
            congr 1
            simp only [cntEE]
            omega
          · rw [take_snoc Hes.out, mkEE_append, Hcn.out]
            have := Hrow.out
            rw [mkEE_set _ _ _ _ Hml.out hlt] at this
            exact this
        case measure => simp [intOf]; omega
      · obtain rfl : j = ess.length := by omega
        have Ho1 := Lib.hid ho
        have Hg := Lib.hid hg
        clear ho hg
        go_wp2
        go_ret
        exact ⟨ret_int (by simp), by have := Ho1.out; rwa [List.drop_length, List.append_nil, List.take_length] at this, Hg.out⟩
theorem heldLetterSS_any (v : Value) (ess : List (List (Int × Int))) (k : Nat) (w : World) (h : EndSS w v (mkEE k ess)) (hl : k + cntEE ess ≤ 4611686018427387904) :
    Calls Tryz.prog 139 #[v, .int .i64 k] w fun e w' => e = .returned (.int .i64 ((k + cntEE ess : Nat) : Int)) ∧ w = w' := by
  obtain ⟨A, c, rfl, hlc, hm, hA⟩ := h
  rw [mkEE_len] at hlc ⊢
  unfold maxLen at hm
  have HA := Lib.hid hA
  clear hA
  go_enter Tryz.func139, Tryz.ntmps139
  go_wp2
  go_loop [1, 5] (fun m i => ∃ j : Nat, j ≤ ess.length ∧ i = .int .i64 j ∧ m = .int .i64 ((k + cntEE (ess.take j) : Nat) : Int)) (fun _ i => ess.length - (intOf i).toNat)
  case atStart => exact ⟨0, Nat.zero_le _, rfl, rfl⟩
  case round =>
    obtain ⟨j, hj, rfl, rfl⟩ := hrel
    by_cases hlt : j < ess.length
    · obtain ⟨es, hes⟩ := getx ess j hlt
      have hct2 := cntEE_take ess (j + 1)
      rw [take_snoc hes, cntEE_append] at hct2
      simp only [cntEE] at hct2
      have hy : (mkEE k ess)[j]? = some (mkE (k + cntEE (ess.take j)) es.length) := by
        conv => lhs; rw [← List.take_append_drop j ess, mkEE_append]
        rw [List.getElem?_append_right (by rw [mkEE_len]; simp; omega), mkEE_len]
        obtain ⟨hj', rfl⟩ := List.getElem?_eq_some_iff.1 hes
        rw [List.drop_eq_getElem_cons hj', List.length_take, Nat.min_eq_left (by omega), Nat.sub_self]
        rfl
      obtain ⟨b, off, u, rfl, hc1, hr⟩ := HA.out j _ hy
      have Hr := Lib.hid hr
      have Hes := Lib.hid hes
      obtain ⟨A1, z1, rfl, _⟩ := hr
      clear hy hes
      obtain ⟨cn, hcn⟩ : ∃ cn, cntEE (ess.take j) = cn := ⟨_, rfl⟩
      rw [hcn] at hct2 hc1 ⊢
      have Hcn := Lib.hid hcn
      have Hr2 := Lib.hid (show EndS w (Value.slice A1 (mkE (k + cn) es.length).length z1) (mkE (k + cn) es.length) by have := Hr.out; rwa [hcn] at this)
      clear hcn Hr
      go_wp2_with fail
      refine (heldLetterS_any _ (k + cn) es.length _ (by exact Hr2.out) (by omega)).mono ?_
      rintro e w1 ⟨rfl, rfl⟩
      go_wp2
      go_round
      case rel =>
        refine ⟨j + 1, by omega, by go_num, ?_⟩
        rw [take_snoc Hes.out, cntEE_append, Hcn.out]
        congr 1
        simp only [cntEE]
        omega
      case measure => simp [intOf]; omega
    · obtain rfl : j = ess.length := by omega
      go_wp2
      go_ret
      exact ⟨ret_int (by simp), rfl⟩
section
variable {ops : Array Oper} {rest : List Oper} {o : Oper} {a : Act} {Q : Exit → Act → World → Prop}
end
section
variable {ops : Array Oper} {rest : List Oper} {o : Oper} {a : Act} {Q : Exit → Act → World → Prop}
end
end Go.Proofs.YtomnaabadohecaaGreat
namespace Go.Proofs.YtomnaabadohecaaGreat
open Go.RowKit
/-! rows of rows of rows of letters -/
theorem lets3_info : (Tryz.prog.info? 158).map (fun i => (i.zero, i.size, i.bytes)) = some (some (.slice none 0 0), 1, 24) := by kernel_rfl
/-- a slice of slices of ends that reads as ess -/
def EndSSS (w : World) (v : Value) (ess : List (List (List (Int × Int)))) : Prop :=
  ∃ (A : Option Addr) (c : Nat), v = .slice A ess.length c ∧ ess.length ≤ c ∧ c ≤ maxLen ∧
    (∀ k es, ess[k]? = some es → ∃ b off u, A = some ⟨b, off, none⟩ ∧ w.cell? ⟨b, off + k, none⟩ = some u ∧ EndSS w u es)
theorem EndSSS.keep {w w' : World} {v : Value} {xs : List (List (List (Int × Int)))} (h : EndSSS w v xs) (hb : Below w.heap.size w w') : EndSSS w' v xs := by
  obtain ⟨A, c, hv, hc, hm, hA⟩ := h
  refine ⟨A, c, hv, hc, hm, fun k x hk => ?_⟩
  obtain ⟨b, off, u, hA', h1, h2⟩ := hA k x hk
  exact ⟨b, off, u, hA', bc hb h1, h2.keep hb⟩
/-- a row of rows of ends -/
def OwnTTT : World → Nat → Value → List (List (List (Int × Int))) → List Nat → Prop := OwnRows 158 OwnTT
theorem lawTTT : RowLaw OwnTTT := rows_law _ lawTT
theorem OwnTTT.read {w : World} {base : Nat} {v : Value} {ess : List (List (List (Int × Int)))} {S : List Nat} (h : OwnTTT w base v ess S) : EndSSS w v ess := by
  obtain ⟨vs, Ss, h1, h2, h3, h4, h5⟩ := h
  rcases ownsRow_cases h1 with ⟨rfl, h0⟩ | ⟨g, c, rfl, hb, hg, hc, hm⟩
  · obtain rfl : ess = [] := List.eq_nil_of_length_eq_zero h0
    exact ⟨none, 0, rfl, Nat.le_refl _, Nat.zero_le _, fun k x hk => by simp at hk⟩
  · have hvl : vs.length = ess.length := by simpa using h1.1
    refine ⟨_, c, rfl, hc, hm, fun k x hk => ?_⟩
    have hlt := lt_of_get hk
    obtain ⟨u, hu⟩ := getx vs k (by omega)
    obtain ⟨T, hT⟩ := getx Ss k (by omega)
    exact ⟨g, 0, u, rfl, by rw [Nat.zero_add, h1.cellAt (cap := c) _ (by omega)]; exact hu, OwnTT.read (h3 k u x T hu hk hT)⟩
/-- the marks of rows of ends -/
def mkT3 : Nat → List (List (List (Int × Int))) → List (List (List (Int × Int)))
  | _, [] => []
  | k, es :: r => mkEE k es :: mkT3 (k + cntEE es) r
def cntT3 : List (List (List (Int × Int))) → Nat
  | [] => 0
  | es :: r => cntEE es + cntT3 r
theorem mkT3_append (k : Nat) (a b : List (List (List (Int × Int)))) : mkT3 k (a ++ b) = mkT3 k a ++ mkT3 (k + cntT3 a) b := by
  induction a generalizing k with
  | nil => simp [mkT3, cntT3]
  | cons x a ih => simp [mkT3, cntT3, ih, Nat.add_assoc]
theorem cntT3_append (a b : List (List (List (Int × Int)))) : cntT3 (a ++ b) = cntT3 a + cntT3 b := by
  induction a with
  | nil => simp [cntT3]
  | cons x a ih => simp [cntT3, ih]; omega
theorem mkT3_len (k : Nat) (a : List (List (List (Int × Int)))) : (mkT3 k a).length = a.length := by
  induction a generalizing k with
  | nil => rfl
  | cons x a ih => simp [mkT3, ih]
theorem cntT3_take (a : List (List (List (Int × Int)))) (k : Nat) : cntT3 (a.take k) ≤ cntT3 a := by
  rw [show cntT3 a = cntT3 (a.take k ++ a.drop k) by rw [List.take_append_drop], cntT3_append]; omega
theorem eqLetterSSS_any (v u : Value) (xs ys : List (List (List (Int × Int)))) (w : World) (h : EndSSS w v xs) (h' : EndSSS w u ys) :
    Calls Tryz.prog 71 #[v, u] w fun e w' => e = .returned (.bool (decide (xs = ys))) ∧ Below w.heap.size w w' := by
  obtain ⟨A, c, rfl, hlc, hm, hA⟩ := h
  obtain ⟨B, d, rfl, hld, hmd, hB⟩ := h'
  unfold maxLen at hm hmd
  have HA := Lib.hid hA
  have HB := Lib.hid hB
  clear hA hB
  by_cases hl : xs.length = ys.length
  · have Hl := Lib.hid hl
    have hl1 : xs.length ≤ ys.length := by omega
    have hl2 : ys.length ≤ xs.length := by omega
    have hb : ((xs.length : Int) != (ys.length : Int)) = false := by simp [hl]
    clear hl
    go_enter Tryz.func71, Tryz.ntmps71
    go_wp2
    go_loopw [5] (fun i wr => ∃ k : Nat, k ≤ xs.length ∧ i = .int .i64 k ∧ xs.take k = ys.take k ∧ Below w.heap.size w wr) (fun i _ => xs.length - (intOf i).toNat)
    case atStart => exact ⟨0, Nat.zero_le _, rfl, by simp, Below.refl _ _⟩
    case round =>
      obtain ⟨k, hk, rfl, heq, hbl⟩ := hrel
      have Heq := Lib.hid heq
      have Hbl := Lib.hid hbl
      clear heq hbl
      by_cases hlt : k < xs.length
      · have hlt2 : k < ys.length := by omega
        obtain ⟨x, hx⟩ := getx xs k hlt
        obtain ⟨y, hy⟩ := getx ys k hlt2
        obtain ⟨b, off, u1, rfl, hc1, hr1⟩ := HA.out k x hx
        obtain ⟨b', off', u2, rfl, hc2, hr2⟩ := HB.out k y hy
        have k1 := bc Hbl.out hc1
        have k2 := bc Hbl.out hc2
        have Hr1 := Lib.hid (hr1.keep Hbl.out)
        have Hr2 := Lib.hid (hr2.keep Hbl.out)
        obtain ⟨A1, z1, rfl, _⟩ := hr1
        obtain ⟨A2, z2, rfl, _⟩ := hr2
        clear hc1 hc2
        have Hx := Lib.hid hx
        have Hy := Lib.hid hy
        clear hx hy
        cases hxy : eqEE x y
        all_goals
          have Hxy := Lib.hid hxy
          clear hxy
          go_wp2
          go_region_held3 (fun w' => w'.cell? ⟨b, off + k, none⟩ = some (.slice A1 x.length z1) ∧ w'.cell? ⟨b', off' + k, none⟩ = some (.slice A2 y.length z2)) (first | exact ⟨k1, k2⟩ | exact ⟨bc hb1 k1, bc hb1 k2⟩)
            (first | (go_at_call 134; refine (eqLetterSS_b _ _ x y _ (by exact Hr1.out) (by exact Hr2.out)).mono ?_; rintro e w1 ⟨rfl, hb1⟩; rw [Hxy.out]))
          have Hb2 := Lib.hid (Hbl.out.drew.trans (hb1.mono (show w.heap.size ≤ wr.heap.size from Hbl.out.size)))
          clear hb1
          go_wp2
        · go_ret
          refine ⟨ret_false (decide_eq_false fun e => ?_), Hb2.out⟩
          have h1 := Hx.out
          rw [e, Hy.out] at h1
          have h2 := Hxy.out
          simp [eqEE] at h1 h2
          exact h2 h1.symm
        · go_roundw
          case rel => exact ⟨k + 1, by omega, by go_num, by rw [take_snoc Hx.out, take_snoc Hy.out, Heq.out, show x = y by simpa [eqEE] using Hxy.out], Hb2.out⟩
          case measure => simp [intOf]; omega
      · go_wp2
        go_ret
        exact ⟨ret_true (decide_eq_true (eq_of_takes Hl.out Heq.out hlt)), Hbl.out⟩
  · have hb : ((xs.length : Int) != (ys.length : Int)) = true := by simp; omega
    have Hl := Lib.hid hl
    clear hl
    go_enter Tryz.func71, Tryz.ntmps71
    go_wp2
    go_ret
    exact ⟨ret_false (decide_eq_false fun e => Hl.out (by rw [e])), Below.refl _ _⟩
theorem OwnTTT.len {w : World} {base : Nat} {A : Option Addr} {n c : Nat} {es : List (List (List (Int × Int)))} {S : List Nat} (h : OwnTTT w base (.slice A n c) es S) : n = es.length := by
  obtain ⟨vs, Ss, h1, _⟩ := h
  rcases ownsRow_cases h1 with ⟨h1, h0⟩ | ⟨g, c, h1, _⟩
  · cases h1; omega
  · cases h1; rfl
theorem mkT3_set (a ess : List (List (List (Int × Int)))) (j : Nat) (y : List (List (Int × Int))) (hl : a.length = j) (h : j < ess.length) : (a ++ ess.drop j).set j y = (a ++ [y]) ++ ess.drop (j + 1) := by
  rw [List.set_append_right _ _ (by omega), hl, Nat.sub_self, List.drop_eq_getElem_cons h, List.set_cons_zero, List.append_assoc]
  rfl
set_option maxHeartbeats 400000 in
theorem markLetterSSS_any (v : Value) (ess : List (List (List (Int × Int)))) (k : Nat) (w : World) (base : Nat) (S : List Nat) (h : OwnTTT w base v ess S) (hl : k + cntT3 ess ≤ 4611686018427387904) :
    Calls Tryz.prog 76 #[v, .int .i64 k] w fun e w' => e = .returned (.int .i64 ((k + cntT3 ess : Nat) : Int)) ∧ OwnTTT w' base v (mkT3 k ess) S ∧ Only S w w' := by
  rcases (show _ ∨ _ by obtain ⟨vs, Ss, h1, _⟩ := h; exact ownsRow_cases h1) with ⟨rfl, h0⟩ | ⟨g, c, rfl, hb1, hb2, hb3, hb4⟩
  · obtain rfl : ess = [] := List.eq_nil_of_length_eq_zero h0
    go_enter Tryz.func76, Tryz.ntmps76
    go_wp2
    go_loop [1, 5] (fun m i => m = .int .i64 k ∧ i = .int .i64 0) (fun _ _ => 0)
    case atStart => exact ⟨rfl, rfl⟩
    case round =>
      obtain ⟨rfl, rfl⟩ := hrel
      go_wp2
      go_ret
      exact ⟨ret_int (by simp [cntT3]), h, Only.refl _ _⟩
  · have Ho := Lib.hid h
    clear h
    unfold maxLen at hb4
    go_enter Tryz.func76, Tryz.ntmps76
    go_wp2
    go_loopw [1, 5] (fun m i wr => ∃ j : Nat, j ≤ ess.length ∧ i = .int .i64 j ∧ m = .int .i64 ((k + cntT3 (ess.take j) : Nat) : Int) ∧ OwnTTT wr base (.slice (some ⟨g, 0, none⟩) ess.length c) (mkT3 k (ess.take j) ++ ess.drop j) S ∧ Only S w wr) (fun _ i _ => ess.length - (intOf i).toNat)
    case atStart => exact ⟨0, Nat.zero_le _, rfl, rfl, by simpa [mkT3] using Ho.out, Only.refl _ _⟩
    case round =>
      obtain ⟨j, hj, rfl, rfl, ho, hg⟩ := hrel
      have hct := cntT3_take ess j
      by_cases hlt : j < ess.length
      · obtain ⟨es, hes⟩ := getx ess j hlt
        have hct2 := cntT3_take ess (j + 1)
        rw [take_snoc hes, cntT3_append] at hct2
        simp only [cntT3] at hct2
        have hml : (mkT3 k (ess.take j)).length = j := by rw [mkT3_len]; simp; omega
        have hy : (mkT3 k (ess.take j) ++ ess.drop j)[j]? = some es := by
          rw [List.getElem?_append_right (by omega), hml, Nat.sub_self, List.getElem?_drop]; simpa using hes
        obtain ⟨u, T, hc1, hR, hTS, hback⟩ := OwnRows.touch lawTT ho hy
        have Hs := Lib.hid hback
        have HR := Lib.hid hR
        have HTS := Lib.hid hTS
        have Hg := Lib.hid hg
        have Hes := Lib.hid hes
        have Hml := Lib.hid hml
        obtain ⟨A1, n1, z1, rfl⟩ := lawTT.one hR
        clear hy ho hg hR hback hes hml hTS
        obtain ⟨cn, hcn⟩ : ∃ cn, cntT3 (ess.take j) = cn := ⟨_, rfl⟩
        rw [hcn] at hct2 ⊢
        have Hcn := Lib.hid hcn
        clear hcn hct
        go_wp2_with fail
        refine (markLetterSS_any _ es (k + cn) _ base T (by exact HR.out) (by omega)).mono ?_
        rintro e w1 ⟨rfl, ho1, hon⟩
        have Hon := Lib.hid (Hg.out.trans (hon.mono HTS.out))
        have Hrow := Lib.hid (Hs.out _ w1 ho1 hon)
        clear ho1 hon
        go_wp2
        go_roundw
        case rel =>
          refine ⟨j + 1, by omega, by go_num, ?_, ?_, Hon.out⟩
          · rw [take_snoc Hes.out, cntT3_append, Hcn.out]
            congr 1
            simp only [cntT3]
            omega
          · rw [take_snoc Hes.out, mkT3_append, Hcn.out]
            have := Hrow.out
            rw [mkT3_set _ _ _ _ Hml.out hlt] at this
            exact this
        case measure => simp [intOf]; omega
      · obtain rfl : j = ess.length := by omega
        have Ho1 := Lib.hid ho
        have Hg := Lib.hid hg
        clear ho hg
        go_wp2
        go_ret
        exact ⟨ret_int (by simp), by have := Ho1.out; rwa [List.drop_length, List.append_nil, List.take_length] at this, Hg.out⟩
theorem heldLetterSSS_any (v : Value) (ess : List (List (List (Int × Int)))) (k : Nat) (w : World) (h : EndSSS w v (mkT3 k ess)) (hl : k + cntT3 ess ≤ 4611686018427387904) :
    Calls Tryz.prog 77 #[v, .int .i64 k] w fun e w' => e = .returned (.int .i64 ((k + cntT3 ess : Nat) : Int)) ∧ w = w' := by
  obtain ⟨A, c, rfl, hlc, hm, hA⟩ := h
  rw [mkT3_len] at hlc ⊢
  unfold maxLen at hm
  have HA := Lib.hid hA
  clear hA
  go_enter Tryz.func77, Tryz.ntmps77
  go_wp2
  go_loop [1, 5] (fun m i => ∃ j : Nat, j ≤ ess.length ∧ i = .int .i64 j ∧ m = .int .i64 ((k + cntT3 (ess.take j) : Nat) : Int)) (fun _ i => ess.length - (intOf i).toNat)
  case atStart => exact ⟨0, Nat.zero_le _, rfl, rfl⟩
  case round =>
    obtain ⟨j, hj, rfl, rfl⟩ := hrel
    by_cases hlt : j < ess.length
    · obtain ⟨es, hes⟩ := getx ess j hlt
      have hct2 := cntT3_take ess (j + 1)
      rw [take_snoc hes, cntT3_append] at hct2
      simp only [cntT3] at hct2
      have hy : (mkT3 k ess)[j]? = some (mkEE (k + cntT3 (ess.take j)) es) := by
        conv => lhs; rw [← List.take_append_drop j ess, mkT3_append]
        rw [List.getElem?_append_right (by rw [mkT3_len]; simp; omega), mkT3_len]
        obtain ⟨hj', rfl⟩ := List.getElem?_eq_some_iff.1 hes
        rw [List.drop_eq_getElem_cons hj', List.length_take, Nat.min_eq_left (by omega), Nat.sub_self]
        rfl
      obtain ⟨b, off, u, rfl, hc1, hr⟩ := HA.out j _ hy
      have Hr := Lib.hid hr
      have Hes := Lib.hid hes
      obtain ⟨A1, z1, rfl, _⟩ := hr
      clear hy hes
      obtain ⟨cn, hcn⟩ : ∃ cn, cntT3 (ess.take j) = cn := ⟨_, rfl⟩
      rw [hcn] at hct2 hc1 ⊢
      have Hcn := Lib.hid hcn
      have Hr2 := Lib.hid (show EndSS w (Value.slice A1 (mkEE (k + cn) es).length z1) (mkEE (k + cn) es) by have := Hr.out; rwa [hcn] at this)
      clear hcn Hr
      go_wp2_with fail
      refine (heldLetterSS_any _ es (k + cn) _ (by exact Hr2.out) (by omega)).mono ?_
      rintro e w1 ⟨rfl, rfl⟩
      go_wp2
      go_round
      case rel =>
        refine ⟨j + 1, by omega, by go_num, ?_⟩
        rw [take_snoc Hes.out, cntT3_append, Hcn.out]
        congr 1
        simp only [cntT3]
        omega
      case measure => simp [intOf]; omega
    · obtain rfl : j = ess.length := by omega
      go_wp2
      go_ret
      exact ⟨ret_int (by simp), rfl⟩
section
variable {ops : Array Oper} {rest : List Oper} {o : Oper} {a : Act} {Q : Exit → Act → World → Prop}
end
section
open Go.ChangeShapes Go.WideShapes Go.ChangeAt Go.Joins Go.Deep
variable {H : Type} {enc : TypeId × Value → H} {W : World}
end
end Go.Proofs.YtomnaabadohecaaGreat
namespace Go.Proofs.YtomnaabadohecaaGreat
open Go.RowKit
/-! states of asynchronous runs (written by tools/asygen.py) -/
structure ASt where
  rounds : List Int
  before : List Int
  now : List Int
  slots : List (List Int)
  flight : List (List (List (Int × Int)))
def AsIn (w : World) (a b c d f : Value) (x : ASt) : Prop := IntS w a x.rounds ∧ IntS w b x.before ∧ IntS w c x.now ∧ IntSS w d x.slots ∧ EndSSS w f x.flight
theorem AsIn.keep {w w' : World} {a b c d f : Value} {x : ASt} (h : AsIn w a b c d f x) (hb : Below w.heap.size w w') : AsIn w' a b c d f x := ⟨h.1.keep hb, h.2.1.keep hb, h.2.2.1.keep hb, h.2.2.2.1.keep hb, h.2.2.2.2.keep hb⟩
set_option maxHeartbeats 4000000 in
theorem eqAsyncState_same (a b c d f a' b' c' d' f' : Value) (x : ASt) (w : World) (h : AsIn w a b c d f x) (h' : AsIn w a' b' c' d' f' x) : Calls Tryz.prog 16 #[.agg #[a, b, c, d, f], .agg #[a', b', c', d', f']] w fun e w' => e = .returned (.bool true) ∧ Below w.heap.size w w' := by
  obtain ⟨A1, z1, hv1, _⟩ := id h.1
  obtain ⟨A2, z2, hv2, _⟩ := id h.2.1
  obtain ⟨A3, z3, hv3, _⟩ := id h.2.2.1
  obtain ⟨A4, z4, hv4, _⟩ := id h.2.2.2.1
  obtain ⟨A5, z5, hv5, _⟩ := id h.2.2.2.2
  obtain ⟨C1, y1, hu1, _⟩ := id h'.1
  obtain ⟨C2, y2, hu2, _⟩ := id h'.2.1
  obtain ⟨C3, y3, hu3, _⟩ := id h'.2.2.1
  obtain ⟨C4, y4, hu4, _⟩ := id h'.2.2.2.1
  obtain ⟨C5, y5, hu5, _⟩ := id h'.2.2.2.2
  obtain ⟨w0, hw0⟩ : ∃ w0, w0 = (w.alloc (.cells #[a, b, c, d, f] 34)).alloc (.cells #[a', b', c', d', f'] 34) := ⟨_, rfl⟩
  have hb0 : Below w.heap.size w w0 := by rw [hw0]; exact ((Below.refl _ _).alloc (Nat.le_refl _) _).alloc (by simp) _
  have p0 : ∀ W, Since w0 W → W.cell? ⟨w.heap.size, 0, none⟩ = some a := fun W hW => bc hW (by rw [hw0]; simp)
  have q0 : ∀ W, Since w0 W → W.cell? ⟨w.heap.size + 1, 0, none⟩ = some a' := fun W hW => bc hW (by rw [hw0]; simp)
  have p1 : ∀ W, Since w0 W → W.cell? ⟨w.heap.size, 1, none⟩ = some b := fun W hW => bc hW (by rw [hw0]; simp)
  have q1 : ∀ W, Since w0 W → W.cell? ⟨w.heap.size + 1, 1, none⟩ = some b' := fun W hW => bc hW (by rw [hw0]; simp)
  have p2 : ∀ W, Since w0 W → W.cell? ⟨w.heap.size, 2, none⟩ = some c := fun W hW => bc hW (by rw [hw0]; simp)
  have q2 : ∀ W, Since w0 W → W.cell? ⟨w.heap.size + 1, 2, none⟩ = some c' := fun W hW => bc hW (by rw [hw0]; simp)
  have p3 : ∀ W, Since w0 W → W.cell? ⟨w.heap.size, 3, none⟩ = some d := fun W hW => bc hW (by rw [hw0]; simp)
  have q3 : ∀ W, Since w0 W → W.cell? ⟨w.heap.size + 1, 3, none⟩ = some d' := fun W hW => bc hW (by rw [hw0]; simp)
  have p4 : ∀ W, Since w0 W → W.cell? ⟨w.heap.size, 4, none⟩ = some f := fun W hW => bc hW (by rw [hw0]; simp)
  have q4 : ∀ W, Since w0 W → W.cell? ⟨w.heap.size + 1, 4, none⟩ = some f' := fun W hW => bc hW (by rw [hw0]; simp)
  have HN := Lib.hid (h.keep hb0)
  have HN' := Lib.hid (h'.keep hb0)
  have Hw0 := Lib.hid hw0
  have Hb0 := Lib.hid hb0
  clear h h' hb0 hw0
  subst hv1 hu1 hv2 hu2 hv3 hu3 hv4 hu4 hv5 hu5
  go_enter Tryz.func16, Tryz.ntmps16
  go_wp2_with fail
  rw [← Hw0.out]
  have hs0 : Since w0 w0 := since_refl _
  refine (eqIntS_b _ _ x.rounds x.rounds _ (by exact (HN.out.keep hs0).1) (by exact (HN'.out.keep hs0).1)).mono ?_
  rw [show eqIs x.rounds x.rounds = true from decide_eq_true rfl]
  rintro e w1 ⟨rfl, hb1⟩
  have hs1 : Since w0 w1 := Since.trans hs0 hb1
  clear hb1
  go_wp2_with fail
  refine (eqIntS_b _ _ x.before x.before _ (by exact (HN.out.keep hs1).2.1) (by exact (HN'.out.keep hs1).2.1)).mono ?_
  rw [show eqIs x.before x.before = true from decide_eq_true rfl]
  rintro e w2 ⟨rfl, hb2⟩
  have hs2 : Since w0 w2 := Since.trans hs1 hb2
  clear hb2
  go_wp2_with fail
  refine (eqIntS_b _ _ x.now x.now _ (by exact (HN.out.keep hs2).2.2.1) (by exact (HN'.out.keep hs2).2.2.1)).mono ?_
  rw [show eqIs x.now x.now = true from decide_eq_true rfl]
  rintro e w3 ⟨rfl, hb3⟩
  have hs3 : Since w0 w3 := Since.trans hs2 hb3
  clear hb3
  go_wp2_with fail
  refine (eqIntSS_any _ _ x.slots x.slots _ (by exact (HN.out.keep hs3).2.2.2.1) (by exact (HN'.out.keep hs3).2.2.2.1)).mono ?_
  rw [decide_eq_true rfl]
  rintro e w4 ⟨rfl, hb4⟩
  have hs4 : Since w0 w4 := Since.trans hs3 hb4
  clear hb4
  go_wp2_with fail
  refine (eqLetterSSS_any _ _ x.flight x.flight _ (by exact (HN.out.keep hs4).2.2.2.2) (by exact (HN'.out.keep hs4).2.2.2.2)).mono ?_
  rw [decide_eq_true rfl]
  rintro e w5 ⟨rfl, hb5⟩
  have hs5 : Since w0 w5 := Since.trans hs4 hb5
  clear hb5
  go_wp2
  go_ret
  exact ⟨rfl, Hb0.out.trans (hs5.mono Hb0.out.size)⟩
end Go.Proofs.YtomnaabadohecaaGreat
namespace Go.Proofs.YtomnaabadohecaaGreat
open Go.RowKit
theorem RowLaw.put {β : Type} {R : World → Nat → Value → β → List Nat → Prop} (L : RowLaw R) {w : World} {base : Nat} {v : Value} {x : β} {S : List Nat} (h : R w base v x S) {p : Addr} (hp : p.block < base) (u : Value) : R (w.setCell p u) base v x S := L.stable h fun k hk => Below.heap_setCell _ _ _ _ (by have := (L.range h k hk).1; omega)
theorem sizeSet (w : World) (p : Addr) (u : Value) : (w.setCell p u).heap.size = w.heap.size := by simp [World.setCell]
def BoxA (w : World) (b : Nat) (vs : Array Value) : Prop := ∃ r, w.heap[b]? = some (.cells vs r)
theorem BoxA.lt {w : World} {b : Nat} {vs : Array Value} (h : BoxA w b vs) : b < w.heap.size := by
  obtain ⟨r, h⟩ := h
  exact (Array.getElem?_eq_some_iff.1 h).1
theorem BoxA.below {w w' : World} {B b : Nat} {vs : Array Value} (h : BoxA w b vs) (hb : Below B w w') (hB : b < B) : BoxA w' b vs := by
  obtain ⟨r, h⟩ := h
  exact ⟨r, by rw [hb.block b hB]; exact h⟩
theorem BoxA.set {w : World} {b : Nat} {vs : Array Value} {u : Value} {p : Addr} (h : BoxA w b vs) (ha : p.block ≠ b) : BoxA (w.setCell p u) b vs := by
  obtain ⟨r, h⟩ := h
  exact ⟨r, by rw [Below.heap_setCell _ _ _ _ (fun e => ha e.symm)]; exact h⟩
theorem BoxA.cell {w : World} {b : Nat} {vs : Array Value} (h : BoxA w b vs) (i : Nat) (u : Value) (hi : vs[i]? = some u) : w.cell? ⟨b, i, none⟩ = some u ∧ w.frozen? ⟨b, i, none⟩ = false := by
  obtain ⟨r, h⟩ := h
  exact ⟨by simp [World.cell?, h, hi], by simp [World.frozen?, h]⟩
theorem BoxA.alloc {w : World} {b : Nat} {vs : Array Value} (h : BoxA w b vs) (o : Obj) : BoxA (w.alloc o) b vs := h.below (below_alloc w o) h.lt
theorem BoxA.new (w : World) (vs : Array Value) (t : TypeId) : BoxA (w.alloc (.cells vs t)) w.heap.size vs := ⟨t, by show (w.heap.push _)[w.heap.size]? = _; rw [Array.getElem?_push_size]⟩
end Go.Proofs.YtomnaabadohecaaGreat
namespace Go.Proofs.YtomnaabadohecaaGreat
open Go.RowKit
/-! rows of clauses: a number, a row of numbers, a number -/
structure Cl where
  state : Int
  inbox : List Int
  next : Int
def ClauseS (w : World) (v : Value) (cs : List Cl) : Prop :=
  ∃ (A : Option Addr) (c : Nat), v = .slice A cs.length c ∧ cs.length ≤ c ∧ c ≤ maxLen ∧
    (∀ k x, cs[k]? = some x → ∃ b off u, A = some ⟨b, off, none⟩ ∧ w.cell? ⟨b, off + k * 3, none⟩ = some (.int .i64 x.state) ∧ w.cell? ⟨b, off + k * 3 + 1, none⟩ = some u ∧ w.cell? ⟨b, off + k * 3 + 2, none⟩ = some (.int .i64 x.next) ∧ IntS w u x.inbox)
theorem ClauseS.keep {w w' : World} {v : Value} {xs : List Cl} (h : ClauseS w v xs) (hb : Below w.heap.size w w') : ClauseS w' v xs := by
  obtain ⟨A, c, hv, hc, hm, hA⟩ := h
  refine ⟨A, c, hv, hc, hm, fun k x hk => ?_⟩
  obtain ⟨b, off, u, hA', h1, h2, h3, h4⟩ := hA k x hk
  exact ⟨b, off, u, hA', bc hb h1, bc hb h2, bc hb h3, h4.keep hb⟩
set_option maxHeartbeats 1000000 in
theorem szClause_any (s : Int) (u : Value) (nx : Int) (xs : List Int) (l : Int) (hl : 0 ≤ l) (hl2 : l ≤ 1048576) (w : World) (h : IntS w u xs) : Calls Tryz.prog 123 #[.agg #[.int .i64 s, u, .int .i64 nx], .int .i64 l] w fun e w' => e = .returned (.int .i64 (left l xs.length)) ∧ Below w.heap.size w w' := by
  have hb0 : Below w.heap.size w (w.alloc (.cells #[.int .i64 s, u, .int .i64 nx] 152)) := below_alloc _ _
  have H1 := Lib.hid (h.keep hb0)
  have Hb0 := Lib.hid hb0
  obtain ⟨A1, z1, rfl, _⟩ := h
  clear hb0
  obtain ⟨q, hq⟩ : ∃ q, q = left l xs.length := ⟨_, rfl⟩
  by_cases c9 : q < 0
  · have hq1 : q = -1 := by rw [hq]; unfold left; split <;> (unfold left at hq; split at hq <;> omega)
    have Hq := Lib.hid hq
    clear hq
    subst hq1
    go_enter Tryz.func123, Tryz.ntmps123
    go_wp2_with fail
    refine (szIntS_any _ xs l hl hl2 _ H1.out).mono ?_
    rw [← Hq.out]
    rintro e w' ⟨rfl, rfl⟩
    go_wp2
    go_ret
    exact ⟨ret_int Hq.out, Hb0.out⟩
  · have Hq := Lib.hid hq
    clear hq
    go_enter Tryz.func123, Tryz.ntmps123
    go_wp2_with fail
    refine (szIntS_any _ xs l hl hl2 _ H1.out).mono ?_
    rw [← Hq.out]
    rintro e w' ⟨rfl, rfl⟩
    go_wp2
    go_ret
    exact ⟨ret_int Hq.out, Hb0.out⟩
def szC (cs : List Cl) : Nat := (cs.map fun c => c.inbox.length).sum
theorem szC_snoc {cs : List Cl} {k : Nat} {x : Cl} (h : cs[k]? = some x) : szC (cs.take (k + 1)) = szC (cs.take k) + x.inbox.length := by
  unfold szC
  rw [List.take_add_one, h]; simp
theorem szC_le (cs : List Cl) (k : Nat) : szC (cs.take k) ≤ szC cs := by
  unfold szC
  conv => rhs; rw [← List.take_append_drop k cs]
  rw [List.map_append, List.sum_append]; omega
def szCl (cs : List Cl) : Nat := cs.length + szC cs
set_option maxHeartbeats 2000000 in
theorem szClauseS_any (v : Value) (ess : List Cl) (l : Int) (hl : 0 ≤ l) (hl2 : l ≤ 1048576) (w : World) (h : ClauseS w v ess) : Calls Tryz.prog 61 #[v, .int .i64 l] w fun e w' => e = .returned (.int .i64 (left l (szCl ess))) ∧ Below w.heap.size w w' := by
  obtain ⟨A, c, rfl, hlc, hm, hA⟩ := h
  unfold maxLen at hm
  have HA := Lib.hid hA
  clear hA
  by_cases h : l - ess.length < 0
  · have hr := Lib.hid (left_neg (m := szCl ess) h (by unfold szCl; omega))
    go_enter Tryz.func61, Tryz.ntmps61
    go_wp2
    go_ret
    exact ⟨ret_int hr.out.symm, Below.refl _ _⟩
  · go_enter Tryz.func61, Tryz.ntmps61
    go_wp2
    go_loopw [1, 5] (fun t i wr => ∃ k : Nat, k ≤ ess.length ∧ i = .int .i64 k ∧ t = .int .i64 (l - ess.length - szC (ess.take k)) ∧ 0 ≤ l - ess.length - szC (ess.take k) ∧ Below w.heap.size w wr) (fun _ i _ => ess.length - (intOf i).toNat)
    case atStart => exact ⟨0, Nat.zero_le _, rfl, by simp [szC], by simp [szC]; omega, Below.refl _ _⟩
    case round =>
      obtain ⟨k, hk, rfl, rfl, hge, hbl⟩ := hrel
      obtain ⟨t, ht⟩ : ∃ t, t = l - ess.length - szC (ess.take k) := ⟨_, rfl⟩
      rw [← ht] at hge ⊢
      have Hbl := Lib.hid hbl
      clear hbl
      by_cases hlt : k < ess.length
      · obtain ⟨es, hes⟩ := getx ess k hlt
        obtain ⟨b, off, u, rfl, hc0, hc1, hc2, hu⟩ := HA.out k es hes
        have k0 := bc Hbl.out hc0
        have k1 := bc Hbl.out hc1
        have k2 := bc Hbl.out hc2
        have Hu := Lib.hid (hu.keep Hbl.out)
        obtain ⟨U1, y1, rfl, _⟩ := hu
        have hs := szC_snoc hes
        have ht2 : t ≤ 1048576 := by omega
        clear hc0 hc1 hc2
        by_cases hneg : t - es.inbox.length < 0
        · have hr := Lib.hid (show left l (szCl ess) = -1 from left_neg (n := ess.length + szC (ess.take (k + 1))) (by omega) (by have := szC_le ess (k + 1); unfold szCl; omega))
          have hlf : left t es.inbox.length = -1 := by unfold left; rw [if_pos hneg]
          have Ht := Lib.hid ht
          clear ht hs hes
          go_wp2_with fail
          refine (szClause_any _ _ _ es.inbox t hge ht2 _ Hu.out).mono ?_
          rw [hlf]
          rintro e w' ⟨rfl, hb⟩
          have Hb := Lib.hid (Hbl.out.trans (hb.mono Hbl.out.size))
          clear hb
          go_wp2
          go_ret
          exact ⟨ret_int hr.out.symm, Hb.out⟩
        · have hlf : left t es.inbox.length = t - es.inbox.length := left_pos hneg
          have Ht := Lib.hid ht
          have Hs := Lib.hid hs
          clear ht hs hes
          go_wp2_with fail
          refine (szClause_any _ _ _ es.inbox t hge ht2 _ Hu.out).mono ?_
          rw [hlf]
          rintro e w' ⟨rfl, hb⟩
          have Hb := Lib.hid (Hbl.out.trans (hb.mono Hbl.out.size))
          clear hb
          go_wp2
          go_roundw
          case rel => exact ⟨k + 1, by omega, by simp, by have := Ht.out; have := Hs.out; congr 1; omega, by have := Ht.out; have := Hs.out; omega, Hb.out⟩
          case measure => simp [intOf]; omega
      · obtain rfl : k = ess.length := by omega
        have hr := Lib.hid (show left l (szCl ess) = t by rw [left_pos (by rw [List.take_length] at ht; unfold szCl; omega), ht, List.take_length]; unfold szCl; omega)
        clear ht
        go_wp2
        go_ret
        exact ⟨ret_int hr.out.symm, Hbl.out⟩
set_option maxHeartbeats 2000000 in
theorem toClause_any (s : Int) (u : Value) (nx : Int) (xs : List Int) (w : World) (h : IntS w u xs) (hl : xs.length ≤ 17592186044416) : Calls Tryz.prog 129 #[.agg #[.int .i64 s, u, .int .i64 nx]] w fun e w' => ∃ v, e = .returned (.agg #[.int .i64 s, v, .int .i64 nx]) ∧ Own w' w.heap.size v xs ∧ Below w.heap.size w w' := by
  obtain ⟨A1, z1, hv1, _⟩ := id h
  subst hv1
  obtain ⟨wa, hwa⟩ : ∃ wa, wa = ((w.alloc (.cells #[.int .i64 s, .slice A1 xs.length z1, .int .i64 nx] 152)).alloc (.cells #[.int .i64 0, .slice none 0 0, .int .i64 0] 159)).alloc (.cells #[.int .i64 s, .slice none 0 0, .int .i64 0] 159) := ⟨_, rfl⟩
  have hba : Below w.heap.size w wa := by rw [hwa]; exact below3 _ _ _ _
  have hsa : wa.heap.size = w.heap.size + 3 := by rw [hwa]; simp
  have b1 : BoxA wa w.heap.size #[.int .i64 s, .slice A1 xs.length z1, .int .i64 nx] := by rw [hwa]; exact ((BoxA.new _ _ _).alloc _).alloc _
  have b2 : BoxA wa (w.heap.size + 1) #[.int .i64 0, .slice none 0 0, .int .i64 0] := by
    rw [hwa]
    have := (BoxA.new (w.alloc (.cells #[.int .i64 s, .slice A1 xs.length z1, .int .i64 nx] 152)) #[.int .i64 0, .slice none 0 0, .int .i64 0] 159).alloc (.cells #[.int .i64 s, .slice none 0 0, .int .i64 0] 159)
    simpa using this
  have b3 : BoxA wa (w.heap.size + 2) #[.int .i64 s, .slice none 0 0, .int .i64 0] := by
    rw [hwa]
    have := BoxA.new ((w.alloc (.cells #[.int .i64 s, .slice A1 xs.length z1, .int .i64 nx] 152)).alloc (.cells #[.int .i64 0, .slice none 0 0, .int .i64 0] 159)) #[.int .i64 s, .slice none 0 0, .int .i64 0] 159
    simpa using this
  have H0 := Lib.hid (h.keep hba)
  have Ha := Lib.hid hwa
  have HB0 := Lib.hid hba
  have X0 := Lib.hid b1
  have Y0 := Lib.hid b2
  have Z0 := Lib.hid b3
  clear h hwa hba b1 b2 b3
  go_enter Tryz.func129, Tryz.ntmps129
  go_wp2_with fail
  rw [← Ha.out]
  refine (toIntS_any _ xs _ (by exact H0.out) hl).mono ?_
  rintro e w1 ⟨v1, rfl, ho1, hb1⟩
  obtain ⟨D1, d1, hu1, _⟩ := id ho1.ints
  subst hu1
  have hz1 := hb1.size
  have c1 := ((X0.out.below hb1 (by omega)).cell 2 _ rfl).1
  have b2 := Y0.out.below hb1 (by omega)
  have b3 := Z0.out.below hb1 (by omega)
  obtain ⟨m0, n0⟩ := b2.cell 0 _ rfl
  obtain ⟨m1, n1⟩ := b2.cell 1 _ rfl
  obtain ⟨m2, n2⟩ := b2.cell 2 _ rfl
  obtain ⟨t0, u0⟩ := b3.cell 0 _ rfl
  obtain ⟨t1, u1⟩ := b3.cell 1 _ rfl
  obtain ⟨t2, u2⟩ := b3.cell 2 _ rfl
  have hfin : Hid (∀ a b c d e, Own (((((w1.setCell ⟨w.heap.size + 2, 1, none⟩ a).setCell ⟨w.heap.size + 2, 2, none⟩ b).setCell ⟨w.heap.size + 1, 0, none⟩ c).setCell ⟨w.heap.size + 1, 1, none⟩ d).setCell ⟨w.heap.size + 1, 2, none⟩ e) w.heap.size (.slice D1 xs.length d1) xs ∧ Below w.heap.size w (((((w1.setCell ⟨w.heap.size + 2, 1, none⟩ a).setCell ⟨w.heap.size + 2, 2, none⟩ b).setCell ⟨w.heap.size + 1, 0, none⟩ c).setCell ⟨w.heap.size + 1, 1, none⟩ d).setCell ⟨w.heap.size + 1, 2, none⟩ e)) := fun a b c d e => by
    have k : OwnI w1 wa.heap.size (.slice D1 xs.length d1) xs _ := ⟨ho1, rfl⟩
    have k5 := RowLaw.put lawI (RowLaw.put lawI (RowLaw.put lawI (RowLaw.put lawI (RowLaw.put lawI k (p := ⟨w.heap.size + 2, 1, none⟩) (by show w.heap.size + 2 < _; omega) a) (p := ⟨w.heap.size + 2, 2, none⟩) (by show w.heap.size + 2 < _; omega) b) (p := ⟨w.heap.size + 1, 0, none⟩) (by show w.heap.size + 1 < _; omega) c) (p := ⟨w.heap.size + 1, 1, none⟩) (by show w.heap.size + 1 < _; omega) d) (p := ⟨w.heap.size + 1, 2, none⟩) (by show w.heap.size + 1 < _; omega) e
    exact ⟨(lawI.mono k5 (by omega)).1, (((((HB0.out.trans (hb1.mono (by omega))).setCell (by simp) _).setCell (by simp) _).setCell (by simp) _).setCell (by simp) _).setCell (by simp) _⟩
  clear b2 b3 ho1 hb1
  go_wp2
  refine bodyPost_ret (v := .agg #[.int .i64 s, .slice D1 xs.length d1, .int .i64 nx]) (by simp [results, Tryz.results129, go_sem, *]) rfl ?_
  exact ⟨_, rfl, (hfin.out _ _ _ _ _).1, (hfin.out _ _ _ _ _).2⟩
end Go.Proofs.YtomnaabadohecaaGreat
