import Derived.Test.YthgbobikbdklhaaAct1
import Derived.Test.YthgbobikbdklhaaGood2
import Derived.Test.YthgbobikbdklhaaRuns
import Derived.Test.YthgbobikbdklhaaLawKit
namespace Go.Proofs.Ythgbobikbdklhaa
open Go.RowKit
/-! the acts of a round -/
def degE (n : Net) (v : Nat) : Nat := (n.ends.getD v []).length
def actQ (c : Int) (v i : Nat) : Q4 := (c, (v : Int), (i : Int), 0)
def rowA (c : Int) (v j : Nat) : List Q4 := (List.range j).map fun i => actQ c v i
def portsA (n : Net) (c : Int) (k : Nat) : List Q4 := (List.range k).flatMap fun v => rowA c v (degE n v)
def stepsA (k : Nat) : List Q4 := (List.range k).map fun (v : Nat) => ((5 : Int), (v : Int), (0 : Int), (0 : Int))
def actsB (n : Net) : List Q4 := portsA n 1 n.ends.length ++ portsA n 2 n.ends.length ++ stepsA n.ends.length
theorem rowA_succ (c : Int) (v j : Nat) : rowA c v (j + 1) = rowA c v j ++ [actQ c v j] := by simp [rowA, List.range_succ]
theorem portsA_succ (n : Net) (c : Int) (k : Nat) : portsA n c (k + 1) = portsA n c k ++ rowA c k (degE n k) := by simp [portsA, List.range_succ]
theorem stepsA_succ (k : Nat) : stepsA (k + 1) = stepsA k ++ [((5 : Int), (k : Int), (0 : Int), (0 : Int))] := by simp [stepsA, List.range_succ]
theorem rowA_len (c : Int) (v j : Nat) : (rowA c v j).length = j := by simp [rowA]
theorem stepsA_len (k : Nat) : (stepsA k).length = k := by simp [stepsA]
theorem degE_le {n : Net} (hn : netOk n = true) (u : Nat) : degE n u ≤ 6 := by
  unfold degE
  cases h : n.ends[u]? with
  | none => simp [h]
  | some es =>
    have := (netOk_row hn h).1
    simp [h]
    omega
theorem portsA_len {n : Net} (c : Int) (hn : netOk n = true) : ∀ k, (portsA n c k).length ≤ k * 6
  | 0 => by simp [portsA]
  | k + 1 => by
    rw [portsA_succ, List.length_append, rowA_len]
    have := portsA_len c hn k
    have := degE_le hn k
    omega
theorem ownA_nil0 (w : World) (base : Nat) : ∃ T, OwnA w base (.slice none 0 0) [] T := ⟨_, ⟨World.ownsRow_nil w base _ _, rfl⟩⟩
theorem ownA_up {w w' : World} {base : Nat} {v : Value} {xs : List Q4} (h : ∃ T, OwnA w base v xs T) (hs : Since w w') : ∃ T, OwnA w' base v xs T := by
  obtain ⟨T, h⟩ := h
  exact ⟨T, lawA.keep h hs.below⟩
def fnExactRoundActs_d (n : Net) : List Q4 := if netOk n = true then actsB n else []
def fnExactRoundActs_r1 (n : Net) : Bool := netOk n
theorem ra_tup {n : Net} (h : netOk n = true) (u : Value) : Ending.returned (.tuple #[u, .bool true]) = .returned (.tuple #[u, .bool (fnExactRoundActs_r1 n)]) := by
  unfold fnExactRoundActs_r1
  rw [h]
theorem ra_tupF {n : Net} (h : netOk n = false) (u : Value) : Ending.returned (.tuple #[u, .bool false]) = .returned (.tuple #[u, .bool (fnExactRoundActs_r1 n)]) := by
  unfold fnExactRoundActs_r1
  rw [h]
theorem fnExactRoundActs_dl (n : Net) (_ : szNet n ≤ 1048576) : 4 * (fnExactRoundActs_d n).length ≤ 1000000000 := by
  unfold fnExactRoundActs_d
  split
  · rename_i h
    have h0 := (netOk_len h).2
    have h1 := portsA_len 1 h n.ends.length
    have h2 := portsA_len 2 h n.ends.length
    unfold actsB
    rw [List.length_append, List.length_append, stepsA_len]
    omega
  · simp
set_option maxRecDepth 100000 in
set_option maxHeartbeats 4000000 in
theorem roundActs_any (ve vi vn : Value) (n : Net) (w : World) (h : NetIn w ve vi vn n) (hn : netOk n = true) :
    Calls Try.prog 37 #[.agg #[ve, vi, vn]] w fun e w' => ∃ u, e = .returned u ∧ (∃ T, OwnA w' w.heap.size u (actsB n) T) ∧ Below w.heap.size w w' := by
  have hn40 := (netOk_len hn).2
  obtain ⟨w0, hw0⟩ : ∃ w0, w0 = (w).alloc (.cells #[ve, vi, vn] 32) := ⟨_, rfl⟩
  have hb0 : Below w.heap.size w w0 := by rw [hw0]; exact ((Below.refl _ _).alloc (by simp) _)
  have H := Lib.hid (h.keep hb0)
  obtain ⟨h1, h2, h3⟩ := h.keep hb0
  obtain ⟨A, c, rfl, hlc, hm, hA⟩ := h1
  obtain ⟨A2, c2, rfl, _, hm2, _⟩ := h2
  obtain ⟨A3, c3, rfl, _, hm3, _⟩ := h3
  unfold maxLen at hm hm2 hm3
  have p00 : ∀ W, Since w0 W → W.cell? ⟨w.heap.size, 0, none⟩ = some (.slice A n.ends.length c) := have_cell (by rw [hw0]; simp)
  have p01 : ∀ W, Since w0 W → W.cell? ⟨w.heap.size, 1, none⟩ = some (.slice A2 n.ids.length c2) := have_cell (by rw [hw0]; simp)
  have p02 : ∀ W, Since w0 W → W.cell? ⟨w.heap.size, 2, none⟩ = some (.slice A3 n.inputs.length c3) := have_cell (by rw [hw0]; simp)
  have Hb0 := Lib.hid hb0
  have Hw0 := Lib.hid hw0
  have HA := Lib.hid hA
  clear hA h
  clear hb0 hw0
  have HPL := Lib.hid (fun c => portsA_len (n := n) c hn)
  have HDE := Lib.hid (degE_le hn)
  clear hn
  obtain ⟨w1, hw1⟩ : ∃ w1, w1 = w0.alloc (.cells #[.int .i64 1, .int .i64 2] 3) := ⟨_, rfl⟩
  have hs1 : Since w0 w1 := by rw [hw1]; exact since_alloc _ (since_refl _)
  have k0 : ∀ X, Since w1 X → X.cell? ⟨w0.heap.size, 0, none⟩ = some (.int .i64 1) := have_cell (by rw [hw1]; simp)
  have k1 : ∀ X, Since w1 X → X.cell? ⟨w0.heap.size, 1, none⟩ = some (.int .i64 2) := have_cell (by rw [hw1]; simp)
  have q00 := lift_cell p00 hs1
  have HW1 := Lib.hid hw1
  have Hs1 := Lib.hid hs1
  have h11 : Since w1 w1 := since_refl _
  have hs0 : Since w0 w0 := since_refl _
  clear hw1 hs1
  go_enter Try.func37, Try.ntmps37
  go_upto_region 1 with (fail)
  rw [← Hw0.out]
  go_wp2
  rw [← HW1.out]
  clear p00 p01 p02 hs0
  go_loopw [3, 12] (fun u i wr => ∃ q : Nat, q ≤ 2 ∧ i = .int .i64 q ∧ (∃ T, OwnA wr w1.heap.size u (if q = 0 then [] else if q = 1 then portsA n 1 n.ends.length else portsA n 1 n.ends.length ++ portsA n 2 n.ends.length) T) ∧ Since w1 wr) (fun _ i _ => 2 - (intOf i).toNat)
  case atStart => exact ⟨0, by omega, rfl, ownA_nil0 _ _, h11⟩
  case round =>
    obtain ⟨q, hq, rfl, ho, hsr⟩ := hrel
    have Ho := Lib.hid ho
    clear h11 ho
    by_cases hlt : q < 2
    · have hkq : ∃ c : Int, (∀ X, Since w1 X → X.cell? ⟨w0.heap.size, q, none⟩ = some (.int .i64 c)) ∧ (if q = 0 then [] else if q = 1 then portsA n 1 n.ends.length else portsA n 1 n.ends.length ++ portsA n 2 n.ends.length) ++ portsA n c n.ends.length = (if q + 1 = 0 then [] else if q + 1 = 1 then portsA n 1 n.ends.length else portsA n 1 n.ends.length ++ portsA n 2 n.ends.length) := by
        rcases (show q = 0 ∨ q = 1 by omega) with rfl | rfl
        · exact ⟨1, k0, by simp⟩
        · exact ⟨2, k1, by simp⟩
      obtain ⟨c0, kq, hnx⟩ := hkq
      obtain ⟨L0, hL0⟩ : ∃ L0, L0 = (if q = 0 then [] else if q = 1 then portsA n 1 n.ends.length else portsA n 1 n.ends.length ++ portsA n 2 n.ends.length) := ⟨_, rfl⟩
      rw [← hL0] at Ho hnx
      have hL0l : L0.length ≤ 1000 := by
        rw [hL0]
        have h1 := HPL.out 1 n.ends.length
        have h2 := HPL.out 2 n.ends.length
        split
        · simp
        · split
          · omega
          · rw [List.length_append]; omega
      have HL0l := Lib.hid hL0l
      have Hnx := Lib.hid hnx
      have Hq := Lib.hid (And.intro hq hlt)
      have hqI : (q : Int) < 2 := by omega
      clear hnx hL0 hL0l k0 k1 hq
      go_wp2
      go_loopw [3, 19] (fun u i wr => ∃ k : Nat, k ≤ n.ends.length ∧ i = .int .i64 k ∧ (∃ T, OwnA wr w1.heap.size u (L0 ++ portsA n c0 k) T) ∧ Since w1 wr) (fun _ i _ => n.ends.length - (intOf i).toNat)
      case atStart => exact ⟨0, Nat.zero_le _, rfl, by simpa [portsA] using Ho.out, hsr⟩
      case round =>
        obtain ⟨k, hk, rfl, ho, hsr2⟩ := hrel
        have Ho2 := Lib.hid ho
        clear hsr ho
        by_cases hlt2 : k < n.ends.length
        · obtain ⟨es, hes⟩ := getx n.ends k hlt2
          obtain ⟨b, offr, cr, ur, hA1, hkr, hc1, hrow⟩ := row_at (H.out.keep Hs1.out.below).es hes
          cases hA1
          obtain ⟨A1, z1, rfl, hz1, hz2, _⟩ := hrow
          unfold maxLen at hz2
          have q5 := have_cell hc1
          have Hle : Hid (degE n k = es.length) := by show _ = _; unfold degE; simp [hes]
          have Hk := Lib.hid (And.intro hk hlt2)
          clear hes hc1 hk
          go_wp2
          go_loopw [3, 26] (fun u i wr => ∃ j : Nat, j ≤ es.length ∧ i = .int .i64 j ∧ (∃ T, OwnA wr w1.heap.size u (L0 ++ portsA n c0 k ++ rowA c0 k j) T) ∧ Since w1 wr) (fun _ i _ => es.length - (intOf i).toNat)
          case atStart => exact ⟨0, Nat.zero_le _, rfl, by simpa [rowA] using Ho2.out, hsr2⟩
          case round =>
            obtain ⟨j, hj, rfl, ho, hsr3⟩ := hrel
            have Ho3 := Lib.hid ho
            clear hsr2 ho
            by_cases hlt3 : j < es.length
            · obtain ⟨LL, hLL⟩ : ∃ LL, LL = L0 ++ portsA n c0 k ++ rowA c0 k j := ⟨_, rfl⟩
              rw [← hLL] at Ho3
              have hLl : LL.length + 1 ≤ 1000000 := by
                rw [hLL, List.length_append, List.length_append, rowA_len]
                have h1 := HL0l.out
                have h2 := HPL.out c0 k
                have h3 := Hk.out
                have h4 := HDE.out k
                have h5 := Hle.out
                omega
              have Hn3 : Hid (L0 ++ portsA n c0 k ++ rowA c0 k (j + 1) = LL ++ [(c0, (k : Int), (j : Int), 0)]) := by show _ = _; rw [rowA_succ, hLL, List.append_assoc (L0 ++ portsA n c0 k)]; rfl
              clear hLL
              obtain ⟨w8, hw8⟩ : ∃ w8, w8 = wr.alloc (.cells #[.int .i64 c0, .int .i64 k, .int .i64 j, .int .i64 0] 64) := ⟨_, rfl⟩
              have Ho8 : Hid (∃ T, OwnA w8 w1.heap.size u3 LL T) := by show ∃ _, _; rw [hw8]; exact ownA_up Ho3.out (since_alloc _ (since_refl _))
              have Hs8 : Hid (Since w1 w8) := by show Since _ _; rw [hw8]; exact since_alloc _ hsr3
              have Hc8 : Hid (w8.cell? ⟨wr.heap.size, 0, none⟩ = some (.int .i64 c0) ∧ w8.cell? ⟨wr.heap.size, 1, none⟩ = some (.int .i64 k) ∧ w8.cell? ⟨wr.heap.size, 2, none⟩ = some (.int .i64 j) ∧ w8.cell? ⟨wr.heap.size, 3, none⟩ = some (.int .i64 0)) := by show _ ∧ _; rw [hw8]; exact ⟨by simp, by simp, by simp, by simp⟩
              go_wp2_with (at_builtin; rw [← hw8]; refine app_act rfl _ _ rfl rfl Ho8.out wr.heap.size (c0, (k : Int), (j : Int), 0) rfl Hc8.out.1 Hc8.out.2.1 Hc8.out.2.2.1 Hc8.out.2.2.2 hLl Hs8.out ?_; intro g9 cc9 w9 ho9 hs9)
              have Ho9 := Lib.hid ho9
              have Hs9 := Lib.hid hs9
              clear ho9 hs9 hw8 hsr3
              go_wp2
              go_roundw
              case rel => exact ⟨j + 1, by omega, by go_num, by rw [Hn3.out]; first | exact Ho9.out | (simpa using Ho9.out), Hs9.out⟩
              case measure => simp [intOf]; omega
            · obtain rfl : j = es.length := by omega
              have Hn3 : Hid (L0 ++ portsA n c0 (k + 1) = L0 ++ portsA n c0 k ++ rowA c0 k es.length) := by show _ = _; rw [portsA_succ, Hle.out, List.append_assoc]
              clear hlt3 hj
              have hk2 := Hk.out.2
              go_wp2
              go_roundw
              case rel => exact ⟨k + 1, by omega, by go_num, by rw [Hn3.out]; exact Ho3.out, hsr3⟩
              case measure => simp [intOf]; omega
        · obtain rfl : k = n.ends.length := by omega
          clear hlt2 hk
          have hq2 := Hq.out.2
          go_wp2
          go_roundw
          case rel => exact ⟨q + 1, by omega, by go_num, by rw [← Hnx.out]; exact Ho2.out, hsr2⟩
          case measure => simp [intOf]; omega
    · have hqI : ¬ (q : Int) < 2 := by omega
      have hq0 : q ≠ 0 := by omega
      have hq1 : q ≠ 1 := by omega
      clear k0 k1
      obtain ⟨L0, hL0⟩ : ∃ L0, L0 = portsA n 1 n.ends.length ++ portsA n 2 n.ends.length := ⟨_, rfl⟩
      have Ho1 : Hid (∃ T, OwnA wr w1.heap.size u3 L0 T) := by
        show ∃ _, _
        have := Ho.out
        rw [if_neg hq0, if_neg hq1] at this
        rw [hL0]
        exact this
      have hL0l : L0.length ≤ 1000 := by
        rw [hL0, List.length_append]
        have h1 := HPL.out 1 n.ends.length
        have h2 := HPL.out 2 n.ends.length
        omega
      have HL0l := Lib.hid hL0l
      have HL0 := Lib.hid hL0
      clear hlt hq Ho hL0l hL0 hq0 hq1
      go_wp2
      go_loopw [3, 42] (fun u i wr => ∃ k : Nat, k ≤ n.ends.length ∧ i = .int .i64 k ∧ (∃ T, OwnA wr w1.heap.size u (L0 ++ stepsA k) T) ∧ Since w1 wr) (fun _ i _ => n.ends.length - (intOf i).toNat)
      case atStart => exact ⟨0, Nat.zero_le _, rfl, by simpa [stepsA] using Ho1.out, hsr⟩
      case round =>
        obtain ⟨k, hk, rfl, ho, hsr2⟩ := hrel
        have Ho2 := Lib.hid ho
        clear hsr ho
        by_cases hlt2 : k < n.ends.length
        · obtain ⟨LL, hLL⟩ : ∃ LL, LL = L0 ++ stepsA k := ⟨_, rfl⟩
          rw [← hLL] at Ho2
          have hLl : LL.length + 1 ≤ 1000000 := by
            rw [hLL, List.length_append, stepsA_len]
            have h1 := HL0l.out
            omega
          have Hn3 : Hid (L0 ++ stepsA (k + 1) = LL ++ [((5 : Int), (k : Int), (0 : Int), (0 : Int))]) := by show _ = _; rw [stepsA_succ, hLL, List.append_assoc]
          clear hLL
          obtain ⟨w8, hw8⟩ : ∃ w8, w8 = wr.alloc (.cells #[.int .i64 5, .int .i64 k, .int .i64 0, .int .i64 0] 64) := ⟨_, rfl⟩
          have Ho8 : Hid (∃ T, OwnA w8 w1.heap.size u3 LL T) := by show ∃ _, _; rw [hw8]; exact ownA_up Ho2.out (since_alloc _ (since_refl _))
          have Hs8 : Hid (Since w1 w8) := by show Since _ _; rw [hw8]; exact since_alloc _ hsr2
          have Hc8 : Hid (w8.cell? ⟨wr.heap.size, 0, none⟩ = some (.int .i64 5) ∧ w8.cell? ⟨wr.heap.size, 1, none⟩ = some (.int .i64 k) ∧ w8.cell? ⟨wr.heap.size, 2, none⟩ = some (.int .i64 0) ∧ w8.cell? ⟨wr.heap.size, 3, none⟩ = some (.int .i64 0)) := by show _ ∧ _; rw [hw8]; exact ⟨by simp, by simp, by simp, by simp⟩
          go_wp2_with (at_builtin; rw [← hw8]; refine app_act rfl _ _ rfl rfl Ho8.out wr.heap.size ((5 : Int), (k : Int), (0 : Int), (0 : Int)) rfl Hc8.out.1 Hc8.out.2.1 Hc8.out.2.2.1 Hc8.out.2.2.2 hLl Hs8.out ?_; intro g9 cc9 w9 ho9 hs9)
          have Ho9 := Lib.hid ho9
          have Hs9 := Lib.hid hs9
          clear ho9 hs9 hw8 hsr2
          go_wp2
          go_roundw
          case rel => exact ⟨k + 1, by omega, by go_num, by rw [Hn3.out]; first | exact Ho9.out | (simpa using Ho9.out), Hs9.out⟩
          case measure => simp [intOf]; omega
        · obtain rfl : k = n.ends.length := by omega
          have HA : Hid (L0 ++ stepsA n.ends.length = actsB n) := by show _ = _; rw [HL0.out]; rfl
          have HS := Lib.hid hsr2
          have HZ := Lib.hid (Nat.le_trans Hb0.out.size Hs1.out.below.size)
          clear hlt2 hk hsr2
          go_wp2
          go_ret
          exact ⟨u3, rfl, by obtain ⟨T, hT⟩ := Ho2.out; rw [HA.out] at hT; exact ⟨T, lawA.mono hT HZ.out⟩, Since.after Hb0.out (Hs1.out.trans HS.out)⟩
set_option maxRecDepth 100000 in
set_option maxHeartbeats 4000000 in
theorem fnExactRoundActs_impl (ve vi vn : Value) (n : Net) (w : World) (h : NetIn w ve vi vn n) (hsz : szNet n ≤ 1048576) :
    Calls Try.prog 19 #[.agg #[ve, vi, vn]] w fun e w' => ∃ u S, e = .returned (.tuple #[u, .bool (fnExactRoundActs_r1 n)]) ∧ OwnA w' w.heap.size u (fnExactRoundActs_d n) S ∧ Below w.heap.size w w' := by
  have Hil := Lib.hid (szNet_ids hsz)
  clear hsz
  obtain ⟨w0, hw0⟩ : ∃ w0, w0 = (w).alloc (.cells #[ve, vi, vn] 32) := ⟨_, rfl⟩
  have hb0 : Below w.heap.size w w0 := by rw [hw0]; exact ((Below.refl _ _).alloc (by simp) _)
  have H := Lib.hid (h.keep hb0)
  obtain ⟨h1, h2, h3⟩ := h.keep hb0
  obtain ⟨A, c, rfl, hlc, hm, hA⟩ := h1
  obtain ⟨A2, c2, rfl, _, hm2, _⟩ := h2
  obtain ⟨A3, c3, rfl, _, hm3, _⟩ := h3
  unfold maxLen at hm hm2 hm3
  have p00 : ∀ W, Since w0 W → W.cell? ⟨w.heap.size, 0, none⟩ = some (.slice A n.ends.length c) := have_cell (by rw [hw0]; simp)
  have p01 : ∀ W, Since w0 W → W.cell? ⟨w.heap.size, 1, none⟩ = some (.slice A2 n.ids.length c2) := have_cell (by rw [hw0]; simp)
  have p02 : ∀ W, Since w0 W → W.cell? ⟨w.heap.size, 2, none⟩ = some (.slice A3 n.inputs.length c3) := have_cell (by rw [hw0]; simp)
  have Hb0 := Lib.hid hb0
  have Hw0 := Lib.hid hw0
  have HA := Lib.hid hA
  clear hA h
  clear hb0 hw0
  have hs0 : Since w0 w0 := since_refl _
  go_enter Try.func19, Try.ntmps19
  go_upto_region 1 with (fail)
  rw [← Hw0.out]
  go_wp2_with fail
  refine (isNetwork_any _ _ _ n _ H.out Hil.out).mono ?_
  rintro e w1 ⟨rfl, hb1⟩
  have hs1 : Since w0 w1 := hb1
  clear hb1 hs0
  cases hn : netOk n
  · have Hn := Lib.hid hn
    have HS := Lib.hid hs1
    clear hs1 hn
    go_wp2
    go_ret2
    exact ⟨.slice none 0 0, _, ra_tupF Hn.out _, by
      unfold fnExactRoundActs_d
      rw [if_neg (by rw [Hn.out]; simp)]
      exact ⟨World.ownsRow_nil _ _ _ _, rfl⟩, Since.after Hb0.out HS.out⟩
  · have Hn := Lib.hid hn
    clear hn
    go_wp2_with fail
    refine (roundActs_any _ _ _ n _ (H.out.keep hs1.below) Hn.out).mono ?_
    rintro e w2 ⟨u, rfl, ho, hb2⟩
    have Ho := Lib.hid ho
    have HS := Lib.hid (hs1.trans hb2)
    have HZ := Lib.hid (Nat.le_trans Hb0.out.size hs1.below.size)
    clear ho hb2 hs1
    go_wp2
    go_ret2
    obtain ⟨T, hT⟩ := Ho.out
    exact ⟨u, T, ra_tup Hn.out u, by
      unfold fnExactRoundActs_d
      rw [if_pos Hn.out]
      exact lawA.mono hT HZ.out, Since.after Hb0.out HS.out⟩
end Go.Proofs.Ythgbobikbdklhaa
