import Derived.Test.YthgbobikbdklhaaWords
import Derived.Test.YthgbobikbdklhaaNums
namespace Go.Proofs.Ythgbobikbdklhaa
open Go.RowKit
theorem l1In_is (n lo hi : Int) (b : Bool) (h : inB lo hi n = b) (w : World) :
    Calls Try.prog 47 #[.int .i64 n, .int .i64 lo, .int .i64 hi] w fun e w' => e = .returned (.bool b) ∧ w = w' := h ▸ l1In_any n lo hi w
theorem l1All_any (v : Value) (xs : List Int) (lo hi : Int) (w : World) (h : IntS w v xs) :
    Calls Try.prog 49 #[v, .int .i64 lo, .int .i64 hi] w fun e w' => e = .returned (.bool (xs.all (inB lo hi))) ∧ w = w' := by
  obtain ⟨A, c, rfl, hlc, hm, hA⟩ := h
  unfold maxLen at hm
  have HA := Lib.hid hA
  clear hA
  go_enter Try.func49, Try.ntmps49
  go_wp2
  go_loop [11] (fun i => ∃ k : Nat, k ≤ xs.length ∧ i = .int .i64 k ∧ (xs.take k).all (inB lo hi) = true) (fun i => xs.length - (intOf i).toNat)
  case atStart => exact ⟨0, Nat.zero_le _, rfl, rfl⟩
  case round =>
    obtain ⟨k, hk, rfl, hall⟩ := hrel
    have Hall := Lib.hid hall
    clear hall
    by_cases hlt : k < xs.length
    · obtain ⟨x, hx⟩ := getx xs k hlt
      obtain ⟨b, off, rfl, hcell⟩ := HA.out k x hx
      have Hx := Lib.hid hx
      clear hx
      cases hb : inB lo hi x
      all_goals
        have Hb := Lib.hid hb
        clear hb
        go_wp2_with (go_at_call 47; refine (l1In_is _ _ _ _ Hb.out _).mono ?_; rintro e w' ⟨rfl, rfl⟩)
      · go_ret
        exact ⟨ret_bool (all_stop Hx.out Hb.out).symm, rfl⟩
      · go_round
        case rel => exact ⟨k + 1, by omega, by go_num, by rw [take_snoc Hx.out]; simp [Hall.out, Hb.out]⟩
        case measure => simp [intOf]; omega
    · go_wp2
      go_ret
      exact ⟨ret_bool (by rw [← Hall.out, take_all _ hlt]), rfl⟩
end Go.Proofs.Ythgbobikbdklhaa
namespace Go.Proofs.Ythgbobikbdklhaa
open Go.RowKit
theorem toIntS_any (v : Value) (xs : List Int) (w : World) (h : IntS w v xs) (hl : xs.length ≤ 17592186044416) :
    Calls Try.prog 9 #[v] w fun e w' => ∃ u, e = .returned u ∧ Own w' w.heap.size u xs ∧ Below w.heap.size w w' := by
  obtain ⟨A, c, rfl, hlc, hm, hA⟩ := h
  unfold maxLen at hm
  have HA := Lib.hid hA
  clear hA
  go_enter Try.func9, Try.ntmps9
  go_wp2_with (at_make; refine mk_ints _ rfl _ _ rfl _ _ xs.length rfl rfl rfl rfl hl ?_; intro w1 ho1 hb1 hz1)
  go_loopw [4] (fun i wr => ∃ k : Nat, k ≤ xs.length ∧ i = .int .i64 k ∧ Own wr w.heap.size (.slice (some ⟨w.heap.size, 0, none⟩) xs.length xs.length) (xs.take k ++ List.replicate (xs.length - k) 0) ∧ Below w.heap.size w wr) (fun i _ => xs.length - (intOf i).toNat)
  case atStart => exact ⟨0, Nat.zero_le _, rfl, by simpa using ho1, hb1⟩
  case round =>
    obtain ⟨k, hk, rfl, ho, hb⟩ := hrel
    clear ho1 hb1 hz1
    have Ho := Lib.hid ho
    have Hb := Lib.hid hb
    by_cases hlt : k < xs.length
    · obtain ⟨x, hx⟩ := getx xs k hlt
      obtain ⟨b, off, rfl, hcell⟩ := HA.out k x hx
      have hcell' := hb.cell (p := ⟨b, off + k, none⟩) (World.block_lt_of_cell? w _ hcell)
      rw [hcell] at hcell'
      have hf := ho.free k
      obtain ⟨y, hy⟩ := getx (xs.take k ++ List.replicate (xs.length - k) 0) k (by simp; omega)
      have hc2 := ho.cell hy
      have Hx := Lib.hid hx
      clear hx hy ho hb hcell
      go_wp2
      go_roundw
      case rel =>
        refine ⟨k + 1, by omega, by go_num, ?_, Hb.out.setCell (Nat.le_refl _) _⟩
        have := Ho.out.set (k := k) x
        rwa [set_fill 0 xs k x Hx.out] at this
      case measure => simp [intOf]; omega
    · go_wp2
      go_ret
      refine ⟨_, rfl, ?_, Hb.out⟩
      have := Ho.out
      rwa [take_all xs hlt, show xs.length - k = 0 by omega, List.replicate_zero, List.append_nil] at this
end Go.Proofs.Ythgbobikbdklhaa
namespace Go.Proofs.Ythgbobikbdklhaa
open Go.RowKit
theorem eq_of_takes {α : Type} {xs ys : List α} {k : Nat} (hl : xs.length = ys.length) (h : xs.take k = ys.take k) (hk : ¬ k < xs.length) : xs = ys := by
  rw [take_all xs hk, take_all ys (by omega)] at h; exact h
theorem eqIntS_any (v u : Value) (xs ys : List Int) (w : World) (h : IntS w v xs) (h' : IntS w u ys) :
    Calls Try.prog 13 #[v, u] w fun e w' => e = .returned (.bool (decide (xs = ys))) ∧ ∃ m, w' = w.drewN m := by
  obtain ⟨A, c, rfl, hlc, hm, hA⟩ := h
  obtain ⟨B, d, rfl, hld, hmd, hB⟩ := h'
  unfold maxLen at hm hmd
  have HA := Lib.hid hA
  have HB := Lib.hid hB
  clear hA hB
  by_cases hl : xs.length = ys.length
  · have Hl := Lib.hid hl
    have hl1 : xs.length ≤ ys.length := by omega
    have hl2 : ys.length ≤ xs.length := by omega
    have hb : ((xs.length : Int) != (ys.length : Int)) = false := by simp [hl]
    clear hl
    go_enter Try.func13, Try.ntmps13
    go_wp2
    go_loopw [5] (fun i wr => ∃ k n : Nat, k ≤ xs.length ∧ i = .int .i64 k ∧ xs.take k = ys.take k ∧ wr = w.drewN n) (fun i _ => xs.length - (intOf i).toNat)
    case atStart => exact ⟨0, 0, Nat.zero_le _, rfl, by simp, rfl⟩
    case round =>
      obtain ⟨k, n, hk, rfl, heq, rfl⟩ := hrel
      have Heq := Lib.hid heq
      clear heq
      by_cases hlt : k < xs.length
      · obtain ⟨x, hx⟩ := getx xs k hlt
        obtain ⟨y, hy⟩ := getx ys k (by omega)
        obtain ⟨b, off, rfl, hcell⟩ := HA.out k x hx
        obtain ⟨b', off', rfl, hcell'⟩ := HB.out k y hy
        have Hx := Lib.hid hx
        have Hy := Lib.hid hy
        clear hx hy
        cases hxy : (x != y)
        all_goals
          have Hxy := Lib.hid hxy
          go_wp2
          go_quiet (fail)
          go_wp2
        · go_roundw
          case rel => exact ⟨k + 1, _, by omega, by go_num, by rw [take_snoc Hx.out, take_snoc Hy.out, Heq.out, show x = y by simpa using Hxy.out], rfl⟩
          case measure => simp [intOf]; omega
        · go_ret
          refine ⟨ret_false (decide_eq_false fun e => ?_), dr1 _ _ _⟩
          have h1 := Hx.out
          rw [e, Hy.out] at h1
          have h2 := Hxy.out
          simp at h1 h2
          exact h2 h1.symm
      · go_wp2
        go_ret
        exact ⟨ret_true (decide_eq_true (eq_of_takes Hl.out Heq.out hlt)), _, rfl⟩
  · have hb : ((xs.length : Int) != (ys.length : Int)) = true := by simp; omega
    have Hl := Lib.hid hl
    clear hl
    go_enter Try.func13, Try.ntmps13
    go_wp2
    go_ret
    exact ⟨ret_false (decide_eq_false fun e => Hl.out (by rw [e])), 0, rfl⟩
def marks (k n : Nat) : List Int := (List.range' k n).map Int.ofNat
theorem marks_len (k n : Nat) : (marks k n).length = n := by simp [marks]
theorem marks_get {k n j : Nat} (h : j < n) : (marks k n)[j]? = some ((k + j : Nat) : Int) := by
  simp [marks, h]
theorem marks_set (xs : List Int) (k j : Nat) (h : j < xs.length) : (marks k j ++ xs.drop j).set j ((k + j : Nat) : Int) = marks k (j + 1) ++ xs.drop (j + 1) := by
  have hl := marks_len k j
  rw [List.set_append_right _ _ (by omega), hl, Nat.sub_self, List.drop_eq_getElem_cons h, List.set_cons_zero]
  rw [show marks k (j + 1) = marks k j ++ [((k + j : Nat) : Int)] by simp [marks, List.range'_concat], List.append_assoc]
  rfl
theorem Own.cases {w : World} {base : Nat} {v : Value} {xs : List Int} (h : Own w base v xs) : (v = .slice none 0 0 ∧ xs = []) ∨ ∃ g c, v = .slice (some ⟨g, 0, none⟩) xs.length c ∧ base ≤ g ∧ g < w.heap.size := by
  rcases h.2 with ⟨rfl, h0⟩ | ⟨g, cap, cur, rfl, hb, hg, hnc, hm, hcs, htake⟩
  · exact .inl ⟨rfl, List.eq_nil_of_length_eq_zero h0⟩
  · exact .inr ⟨g, cap, rfl, hb, (Array.getElem?_eq_some_iff.1 hg).1⟩
theorem grown_set {a w : World} {g : Nat} (h : a.grownBy w (some g)) (k : Nat) (u : Value) : a.grownBy (w.setCell ⟨g, k, none⟩ u) (some g) :=
  ⟨h.os, h.tape, h.output, by simpa [World.setCell] using h.size, fun i hi hne => (Below.heap_setCell w ⟨g, k, none⟩ u i (by rintro rfl; exact hne rfl)).trans (h.block i hi hne)⟩
theorem markIntS_any (v : Value) (xs : List Int) (k : Nat) (w : World) (base : Nat) (h : Own w base v xs) (hl : k + xs.length ≤ 9223372036854775807) :
    Calls Try.prog 15 #[v, .int .i64 k] w fun e w' => e = .returned (.int .i64 ((k + xs.length : Nat) : Int)) ∧ Own w' base v (marks k xs.length) ∧ w.grownBy w' v.ownBlock := by
  rcases h.cases with ⟨rfl, rfl⟩ | ⟨g, c, rfl, hb1, hb2⟩
  · go_enter Try.func15, Try.ntmps15
    go_wp2
    go_loop [1, 5] (fun m i => m = .int .i64 k ∧ i = .int .i64 0) (fun _ _ => 0)
    case atStart => exact ⟨rfl, rfl⟩
    case round =>
      obtain ⟨rfl, rfl⟩ := hrel
      go_wp2
      go_ret
      exact ⟨ret_int (by simp), h, World.grownBy.refl _ _⟩
  · have Ho := Lib.hid h
    clear h
    go_enter Try.func15, Try.ntmps15
    go_wp2
    go_loopw [1, 5] (fun m i wr => ∃ j : Nat, j ≤ xs.length ∧ i = .int .i64 j ∧ m = .int .i64 ((k + j : Nat) : Int) ∧ Own wr base (.slice (some ⟨g, 0, none⟩) xs.length c) (marks k j ++ xs.drop j) ∧ w.grownBy wr (some g)) (fun _ i _ => xs.length - (intOf i).toNat)
    case atStart => exact ⟨0, Nat.zero_le _, rfl, rfl, by simpa [marks] using Ho.out, World.grownBy.refl _ _⟩
    case round =>
      obtain ⟨j, hj, rfl, rfl, ho, hg⟩ := hrel
      by_cases hlt : j < xs.length
      · have hf := ho.free j
        obtain ⟨y, hy⟩ := getx (marks k j ++ xs.drop j) j (by simp [marks_len]; omega)
        have hc2 := ho.cell hy
        have Ho1 := Lib.hid ho
        have Hg := Lib.hid hg
        clear hy ho hg
        go_wp2
        go_roundw
        case rel =>
          refine ⟨j + 1, by omega, by go_num, by go_num, ?_, grown_set Hg.out _ _⟩
          have := Ho1.out.set (k := j) ((k + j : Nat) : Int)
          rw [marks_set _ _ _ hlt] at this
          simpa using this
        case measure => simp [intOf]; omega
      · obtain rfl : j = xs.length := by omega
        have Ho1 := Lib.hid ho
        have Hg := Lib.hid hg
        clear ho hg
        go_wp2
        go_ret
        exact ⟨ret_int (by simp), by have := Ho1.out; rwa [List.drop_length, List.append_nil] at this, Hg.out⟩
theorem heldIntS_any (v : Value) (k n : Nat) (w : World) (h : IntS w v (marks k n)) (hl : k + n ≤ 9223372036854775807) :
    Calls Try.prog 35 #[v, .int .i64 k] w fun e w' => e = .returned (.int .i64 ((k + n : Nat) : Int)) ∧ w = w' := by
  obtain ⟨A, c, rfl, hlc, hm, hA⟩ := h
  rw [marks_len] at hlc ⊢
  unfold maxLen at hm
  have HA := Lib.hid hA
  clear hA
  go_enter Try.func35, Try.ntmps35
  go_wp2
  go_loop [1, 5] (fun m i => ∃ j : Nat, j ≤ n ∧ i = .int .i64 j ∧ m = .int .i64 ((k + j : Nat) : Int)) (fun _ i => n - (intOf i).toNat)
  case atStart => exact ⟨0, Nat.zero_le _, rfl, rfl⟩
  case round =>
    obtain ⟨j, hj, rfl, rfl⟩ := hrel
    by_cases hlt : j < n
    · obtain ⟨b, off, rfl, hcell⟩ := HA.out j _ (marks_get hlt)
      go_wp2
      go_round
      case rel => exact ⟨j + 1, by omega, by go_num, by go_num⟩
      case measure => simp [intOf]; omega
    · obtain rfl : j = n := by omega
      go_wp2
      go_ret
      exact ⟨ret_int (by simp), rfl⟩
end Go.Proofs.Ythgbobikbdklhaa
