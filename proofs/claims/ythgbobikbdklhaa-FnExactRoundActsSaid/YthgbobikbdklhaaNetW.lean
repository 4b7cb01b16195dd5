import Derived.Test.YthgbobikbdklhaaFuncs
namespace Go.Proofs.Ythgbobikbdklhaa
open Go.RowKit
/-- a slice of ends that reads as es -/
def EndS (w : World) (v : Value) (es : List (Int × Int)) : Prop :=
  ∃ (A : Option Addr) (c : Nat), v = .slice A es.length c ∧ es.length ≤ c ∧ c ≤ maxLen ∧
    (∀ k e, es[k]? = some e → ∃ b off, A = some ⟨b, off, none⟩ ∧ w.cell? ⟨b, off + k * 2, none⟩ = some (.int .i64 e.1) ∧ w.cell? ⟨b, off + k * 2 + 1, none⟩ = some (.int .i64 e.2))
theorem EndS.keep {w w' : World} {v : Value} {xs : List (Int × Int)} (h : EndS w v xs) (hb : Below w.heap.size w w') : EndS w' v xs := by
  obtain ⟨A, c, hv, hc, hm, hA⟩ := h
  refine ⟨A, c, hv, hc, hm, fun k x hk => ?_⟩
  obtain ⟨b, off, hA', h1, h2⟩ := hA k x hk
  exact ⟨b, off, hA', bc hb h1, bc hb h2⟩
/-- a slice of slices of ends that reads as ess -/
def EndSS (w : World) (v : Value) (ess : List (List (Int × Int))) : Prop :=
  ∃ (A : Option Addr) (c : Nat), v = .slice A ess.length c ∧ ess.length ≤ c ∧ c ≤ maxLen ∧
    (∀ k es, ess[k]? = some es → ∃ b off u, A = some ⟨b, off, none⟩ ∧ w.cell? ⟨b, off + k, none⟩ = some u ∧ EndS w u es)
theorem EndSS.keep {w w' : World} {v : Value} {xs : List (List (Int × Int))} (h : EndSS w v xs) (hb : Below w.heap.size w w') : EndSS w' v xs := by
  obtain ⟨A, c, hv, hc, hm, hA⟩ := h
  refine ⟨A, c, hv, hc, hm, fun k x hk => ?_⟩
  obtain ⟨b, off, u, hA', h1, h2⟩ := hA k x hk
  exact ⟨b, off, u, hA', bc hb h1, h2.keep hb⟩
/-- a network's data -/
structure Net where
  ends : List (List (Int × Int))
  ids : List Int
  inputs : List Int
  deriving DecidableEq
def NetIn (w : World) (ve vi vn : Value) (n : Net) : Prop := EndSS w ve n.ends ∧ IntS w vi n.ids ∧ IntS w vn n.inputs
theorem NetIn.keep {w w' : World} {ve vi vn : Value} {n : Net} (h : NetIn w ve vi vn n) (hb : Below w.heap.size w w') : NetIn w' ve vi vn n := ⟨h.1.keep hb, h.2.1.keep hb, h.2.2.keep hb⟩

def eqE (x y : Int × Int) : Bool := decide (x = y)
theorem eqEnd_any (a b c d : Int) (w : World) :
    Calls Try.prog 66 #[.agg #[.int .i64 a, .int .i64 b], .agg #[.int .i64 c, .int .i64 d]] w fun e w' => e = .returned (.bool (eqE (a, b) (c, d))) ∧ Below w.heap.size w w' := by
  cases h1 : (a != c)
  · cases h2 : (b != d)
    · have hr := Lib.hid (show eqE (a, b) (c, d) = true by simp at h1 h2; simp [eqE, h1, h2])
      go_enter Try.func66, Try.ntmps66
      go_wp2
      go_ret
      exact ⟨ret_true hr.out, ((Below.refl _ _).alloc (Nat.le_refl _) _).alloc (by simp) _⟩
    · have hr := Lib.hid (show eqE (a, b) (c, d) = false by simp at h1 h2; simp [eqE, h2])
      go_enter Try.func66, Try.ntmps66
      go_wp2
      go_ret
      exact ⟨ret_false hr.out, ((Below.refl _ _).alloc (Nat.le_refl _) _).alloc (by simp) _⟩
  · have hr := Lib.hid (show eqE (a, b) (c, d) = false by simp at h1; simp [eqE, h1])
    go_enter Try.func66, Try.ntmps66
    go_wp2
    go_ret
    exact ⟨ret_false hr.out, ((Below.refl _ _).alloc (Nat.le_refl _) _).alloc (by simp) _⟩
theorem eqEndS_any (v u : Value) (xs ys : List (Int × Int)) (w : World) (h : EndS w v xs) (h' : EndS w u ys) :
    Calls Try.prog 54 #[v, u] w fun e w' => e = .returned (.bool (decide (xs = ys))) ∧ Below w.heap.size w w' := by
  obtain ⟨A, c, rfl, hlc, hm, hA⟩ := h
  obtain ⟨B, d, rfl, hld, hmd, hB⟩ := h'
  unfold maxLen at hm hmd
  have HA := Lib.hid hA
  have HB := Lib.hid hB
  clear hA hB
  by_cases hl : xs.length = ys.length
  · have Hl := Lib.hid hl
    have hl1 : xs.length ≤ ys.length := by omega
    have hl2 : ys.length ≤ xs.length := by omega
    have hb : ((xs.length : Int) != (ys.length : Int)) = false := by simp [hl]
    clear hl
    go_enter Try.func54, Try.ntmps54
    go_wp2
    go_loopw [5] (fun i wr => ∃ k : Nat, k ≤ xs.length ∧ i = .int .i64 k ∧ xs.take k = ys.take k ∧ Below w.heap.size w wr) (fun i _ => xs.length - (intOf i).toNat)
    case atStart => exact ⟨0, Nat.zero_le _, rfl, by simp, Below.refl _ _⟩
    case round =>
      obtain ⟨k, hk, rfl, heq, hbl⟩ := hrel
      have Heq := Lib.hid heq
      have Hbl := Lib.hid hbl
      clear heq hbl
      by_cases hlt : k < xs.length
      · have hlt2 : k < ys.length := by omega
        obtain ⟨x, hx⟩ := getx xs k hlt
        obtain ⟨y, hy⟩ := getx ys k hlt2
        obtain ⟨b, off, rfl, hc1, hc2⟩ := HA.out k x hx
        obtain ⟨b', off', rfl, hc3, hc4⟩ := HB.out k y hy
        have k1 := bc Hbl.out hc1
        have k2 := bc Hbl.out hc2
        have k3 := bc Hbl.out hc3
        have k4 := bc Hbl.out hc4
        clear hc1 hc2 hc3 hc4
        have Hx := Lib.hid hx
        have Hy := Lib.hid hy
        clear hx hy
        cases hxy : eqE x y
        all_goals
          have Hxy := Lib.hid hxy
          clear hxy
          go_wp2
          go_region_held3 (fun w' => w'.cell? ⟨b, off + k * 2, none⟩ = some (.int .i64 x.1) ∧ w'.cell? ⟨b, off + k * 2 + 1, none⟩ = some (.int .i64 x.2) ∧ w'.cell? ⟨b', off' + k * 2, none⟩ = some (.int .i64 y.1) ∧ w'.cell? ⟨b', off' + k * 2 + 1, none⟩ = some (.int .i64 y.2)) (first | exact ⟨k1, k2, k3, k4⟩ | exact ⟨bc hb1 k1, bc hb1 k2, bc hb1 k3, bc hb1 k4⟩)
            (first | (go_at_call 66; refine (eqEnd_any _ _ _ _ _).mono ?_; rintro e w1 ⟨rfl, hb1⟩; rw [Hxy.out]))
          have Hb2 := Lib.hid (Hbl.out.drew.trans (hb1.mono (show w.heap.size ≤ wr.heap.size from Hbl.out.size)))
          clear hb1
          go_wp2
        · go_ret
          refine ⟨ret_false (decide_eq_false fun e => ?_), Hb2.out⟩
          have h1 := Hx.out
          rw [e, Hy.out] at h1
          have h2 := Hxy.out
          simp [eqE] at h1 h2
          exact h2 h1.symm
        · go_roundw
          case rel => exact ⟨k + 1, by omega, by go_num, by rw [take_snoc Hx.out, take_snoc Hy.out, Heq.out, show x = y by simpa [eqE] using Hxy.out], Hb2.out⟩
          case measure => simp [intOf]; omega
      · go_wp2
        go_ret
        exact ⟨ret_true (decide_eq_true (eq_of_takes Hl.out Heq.out hlt)), Hbl.out⟩
  · have hb : ((xs.length : Int) != (ys.length : Int)) = true := by simp; omega
    have Hl := Lib.hid hl
    clear hl
    go_enter Try.func54, Try.ntmps54
    go_wp2
    go_ret
    exact ⟨ret_false (decide_eq_false fun e => Hl.out (by rw [e])), Below.refl _ _⟩
def eqES (x y : List (Int × Int)) : Bool := decide (x = y)
theorem eqEndS_b (v u : Value) (xs ys : List (Int × Int)) (w : World) (h : EndS w v xs) (h' : EndS w u ys) :
    Calls Try.prog 54 #[v, u] w fun e w' => e = .returned (.bool (eqES xs ys)) ∧ Below w.heap.size w w' := eqEndS_any v u xs ys w h h'
theorem eqEndSS_any (v u : Value) (xs ys : List (List (Int × Int))) (w : World) (h : EndSS w v xs) (h' : EndSS w u ys) :
    Calls Try.prog 33 #[v, u] w fun e w' => e = .returned (.bool (decide (xs = ys))) ∧ Below w.heap.size w w' := by
  obtain ⟨A, c, rfl, hlc, hm, hA⟩ := h
  obtain ⟨B, d, rfl, hld, hmd, hB⟩ := h'
  unfold maxLen at hm hmd
  have HA := Lib.hid hA
  have HB := Lib.hid hB
  clear hA hB
  by_cases hl : xs.length = ys.length
  · have Hl := Lib.hid hl
    have hl1 : xs.length ≤ ys.length := by omega
    have hl2 : ys.length ≤ xs.length := by omega
    have hb : ((xs.length : Int) != (ys.length : Int)) = false := by simp [hl]
    clear hl
    go_enter Try.func33, Try.ntmps33
    go_wp2
    go_loopw [5] (fun i wr => ∃ k : Nat, k ≤ xs.length ∧ i = .int .i64 k ∧ xs.take k = ys.take k ∧ Below w.heap.size w wr) (fun i _ => xs.length - (intOf i).toNat)
    case atStart => exact ⟨0, Nat.zero_le _, rfl, by simp, Below.refl _ _⟩
    case round =>
      obtain ⟨k, hk, rfl, heq, hbl⟩ := hrel
      have Heq := Lib.hid heq
      have Hbl := Lib.hid hbl
      clear heq hbl
      by_cases hlt : k < xs.length
      · have hlt2 : k < ys.length := by omega
        obtain ⟨x, hx⟩ := getx xs k hlt
        obtain ⟨y, hy⟩ := getx ys k hlt2
        obtain ⟨b, off, u1, rfl, hc1, hr1⟩ := HA.out k x hx
        obtain ⟨b', off', u2, rfl, hc2, hr2⟩ := HB.out k y hy
        have k1 := bc Hbl.out hc1
        have k2 := bc Hbl.out hc2
        have Hr1 := Lib.hid (hr1.keep Hbl.out)
        have Hr2 := Lib.hid (hr2.keep Hbl.out)
        obtain ⟨A1, z1, rfl, _⟩ := hr1
        obtain ⟨A2, z2, rfl, _⟩ := hr2
        clear hc1 hc2
        have Hx := Lib.hid hx
        have Hy := Lib.hid hy
        clear hx hy
        cases hxy : eqES x y
        all_goals
          have Hxy := Lib.hid hxy
          clear hxy
          go_wp2
          go_region_held3 (fun w' => w'.cell? ⟨b, off + k, none⟩ = some (.slice A1 x.length z1) ∧ w'.cell? ⟨b', off' + k, none⟩ = some (.slice A2 y.length z2)) (first | exact ⟨k1, k2⟩ | exact ⟨bc hb1 k1, bc hb1 k2⟩)
            (first | (go_at_call 54; refine (eqEndS_b _ _ x y _ (by exact Hr1.out) (by exact Hr2.out)).mono ?_; rintro e w1 ⟨rfl, hb1⟩; rw [Hxy.out]))
          have Hb2 := Lib.hid (Hbl.out.drew.trans (hb1.mono (show w.heap.size ≤ wr.heap.size from Hbl.out.size)))
          clear hb1
          go_wp2
        · go_ret
          refine ⟨ret_false (decide_eq_false fun e => ?_), Hb2.out⟩
          have h1 := Hx.out
          rw [e, Hy.out] at h1
          have h2 := Hxy.out
          simp [eqES] at h1 h2
          exact h2 h1.symm
        · go_roundw
          case rel => exact ⟨k + 1, by omega, by go_num, by rw [take_snoc Hx.out, take_snoc Hy.out, Heq.out, show x = y by simpa [eqES] using Hxy.out], Hb2.out⟩
          case measure => simp [intOf]; omega
      · go_wp2
        go_ret
        exact ⟨ret_true (decide_eq_true (eq_of_takes Hl.out Heq.out hlt)), Hbl.out⟩
  · have hb : ((xs.length : Int) != (ys.length : Int)) = true := by simp; omega
    have Hl := Lib.hid hl
    clear hl
    go_enter Try.func33, Try.ntmps33
    go_wp2
    go_ret
    exact ⟨ret_false (decide_eq_false fun e => Hl.out (by rw [e])), Below.refl _ _⟩
end Go.Proofs.Ythgbobikbdklhaa
