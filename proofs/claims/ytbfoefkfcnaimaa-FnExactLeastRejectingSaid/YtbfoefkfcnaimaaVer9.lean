import Derived.Test.YtbfoefkfcnaimaaVer8
import Derived.Test.YtbfoefkfcnaimaaDel
namespace Go.Proofs.Ytbfoefkfcnaimaa
open Go.RowKit
/-- the nodes that reject -/
def rejL (n : Net) (s : Int) (ls : List Int) : List Int := keptB (fun v => accAt n s ls v.toNat) (upto ls.length)
theorem rejL_le (n : Net) (s : Int) (ls : List Int) : (rejL n s ls).length ≤ ls.length := by
  have := kept_le (fun v => accAt n s ls v.toNat) (upto ls.length)
  rw [upto_len] at this
  exact this
theorem kept_snoc' (p : Int → Bool) (k : Nat) : keptB p (upto (k + 1)) = keptB p (upto k) ++ if p k then [] else [(k : Int)] := by
  rw [upto_snoc]
  unfold keptB
  rw [List.filter_append]
  congr 1
  cases h : p (k : Int) <;> simp [h]
set_option maxRecDepth 100000 in
set_option maxHeartbeats 8000000 in
theorem plRejects_any (ve vi vn vl : Value) (n : Net) (s : Int) (ls : List Int) (w : World) (h : NetIn w ve vi vn n) (hl : IntS w vl ls) (hok : labOk n s ls = true) :
    Calls Try.prog 54 #[.agg #[ve, vi, vn], .int .i64 s, vl] w fun e w' => ∃ u, e = .returned u ∧ Own w' w.heap.size u (rejL n s ls) ∧ Below w.heap.size w w' := by
  obtain ⟨w0, hw0⟩ : ∃ w0, w0 = (w).alloc (.cells #[ve, vi, vn] 31) := ⟨_, rfl⟩
  have hb0 : Below w.heap.size w w0 := by rw [hw0]; exact ((Below.refl _ _).alloc (by simp) _)
  have H := Lib.hid (h.keep hb0)
  obtain ⟨h1, h2, h3⟩ := h.keep hb0
  obtain ⟨A, c, rfl, hlc, hm, hA⟩ := h1
  obtain ⟨A2, c2, rfl, _, hm2, _⟩ := h2
  obtain ⟨A3, c3, rfl, _, hm3, _⟩ := h3
  unfold maxLen at hm hm2 hm3
  have p00 : ∀ W, Since w0 W → W.cell? ⟨w.heap.size, 0, none⟩ = some (.slice A n.ends.length c) := have_cell (by rw [hw0]; simp)
  have p01 : ∀ W, Since w0 W → W.cell? ⟨w.heap.size, 1, none⟩ = some (.slice A2 n.ids.length c2) := have_cell (by rw [hw0]; simp)
  have p02 : ∀ W, Since w0 W → W.cell? ⟨w.heap.size, 2, none⟩ = some (.slice A3 n.inputs.length c3) := have_cell (by rw [hw0]; simp)
  have Hb0 := Lib.hid hb0
  have Hw0 := Lib.hid hw0
  have HA := Lib.hid hA
  clear hA h
  clear hb0 hw0
  have HL := Lib.hid (hl.keep Hb0.out)
  obtain ⟨AL, cL, rfl, hlL, hmL, _⟩ := hl
  unfold maxLen at hmL
  have Hok := Lib.hid hok
  have hle : ls.length ≤ 40 := by have := labOk_net hok; omega
  have hs0 : Since w0 w0 := since_refl _
  clear hok
  go_enter Try.func54, Try.ntmps54
  go_upto_region 1 with (fail)
  rw [← Hw0.out]
  go_wp2
  go_loopw [7, 11] (fun u i wr => ∃ k : Nat, k ≤ ls.length ∧ i = .int .i64 k ∧ Own wr w0.heap.size u (keptB (fun v => accAt n s ls v.toNat) (upto k)) ∧ Since w0 wr) (fun _ i _ => ls.length - (intOf i).toNat)
  case atStart => exact ⟨0, Nat.zero_le _, rfl, by simpa [keptB, upto] using own_nil _ w0.heap.size, hs0⟩
  case round =>
    obtain ⟨k, hk, rfl, ho, hs⟩ := hrel
    have Ho := Lib.hid ho
    clear ho hs0
    by_cases hlt : k < ls.length
    · obtain ⟨es, l, idk, ink, a1, a2, a3, a4, a5, a6, a7, a8, a9, a10⟩ := acc_at Hok.out (k := k) (by have := labOk_net Hok.out; omega)
      have HA := Lib.hid (And.intro a3 (And.intro a5 (And.intro a6 (And.intro a7 (And.intro a8 (And.intro a9 a10))))))
      have Hlen : Hid ((keptB (fun v => accAt n s ls v.toNat) (upto k)).length + 1 ≤ 17592186044416) := by
        have := kept_le (fun v => accAt n s ls v.toNat) (upto k)
        rw [upto_len] at this
        show _ ≤ _
        omega
      clear a3 a5 a6 a7 a8 a9 a10
      go_wp2_with fail
      refine (plAt_any _ _ _ _ n s ls k es l idk ink _ (H.out.keep hs.below) (HL.out.keep hs.below) a1 a2 HA.out.1 a4 HA.out.2.1 HA.out.2.2.1 HA.out.2.2.2.1 HA.out.2.2.2.2.1 HA.out.2.2.2.2.2.1).mono ?_
      rw [← HA.out.2.2.2.2.2.2]
      rintro e W2 ⟨rfl, hb2⟩
      have hs2 := Since.trans hs hb2
      have Ho2 := Lib.hid (Ho.out.keep hb2)
      cases hp : accAt n s ls k
      · have Hp := Lib.hid (show (fun v : Int => accAt n s ls v.toNat) (k : Int) = false by simpa using hp)
        clear hs hb2 hp
        go_wp2_with (at_builtin; refine app_int_s rfl _ _ rfl rfl (Ho2.out.since (since_alloc _ (since_refl _))) W2.heap.size k rfl (by simp [go_sem]) Hlen.out (since_alloc _ hs2) ?_; intro g cc w2 ho2 hs3)
        have Ho3 := Lib.hid ho2
        have Hs3 := Lib.hid hs3
        clear ho2 hs3 hs2
        go_wp2
        go_roundw
        case rel => exact ⟨k + 1, by omega, by go_num, by rw [kept_snoc', Hp.out]; exact Ho3.out, Hs3.out⟩
        case measure => simp [intOf]; omega
      · have Hp := Lib.hid (show (fun v : Int => accAt n s ls v.toNat) (k : Int) = true by simpa using hp)
        clear hs hb2 hp
        go_wp2
        go_roundw
        case rel => exact ⟨k + 1, by omega, by go_num, by rw [kept_snoc', Hp.out]; simpa using Ho2.out, hs2⟩
        case measure => simp [intOf]; omega
    · obtain rfl : k = ls.length := by omega
      go_wp2
      go_ret
      exact ⟨_, rfl, Ho.out.mono Hb0.out.size, Since.after Hb0.out hs⟩
theorem rej1_ent : ∀ args w, (callFunc 111 args).run Try.prog w = .ok (.enter 111 args) w := enters_of Try.func111 (by kernel_rfl) rfl
set_option maxHeartbeats 2000000 in
theorem rejc_any (ve vi vn vl : Value) (n : Net) (s : Int) (ls : List Int) (k b : Nat) (w : World) (h : NetIn w ve vi vn n) (hl : IntS w vl ls) (hok : labOk n s ls = true) (hk : k < n.ends.length)
    (c0 : w.cell? ⟨b, 0, none⟩ = some ve) (c1 : w.cell? ⟨b, 1, none⟩ = some vi) (c2 : w.cell? ⟨b, 2, none⟩ = some vn) (c3 : w.cell? ⟨b + 1, 0, none⟩ = some (.int .i64 s)) (c4 : w.cell? ⟨b + 1 + 1, 0, none⟩ = some vl) :
    Calls Try.prog 111 #[.int .i64 k, .pointer (some ⟨b, 0, none⟩), .pointer (some ⟨b + 1, 0, none⟩), .pointer (some ⟨b + 1 + 1, 0, none⟩)] w fun e w' => e = .returned (.bool (accAt n s ls k)) ∧ Below w.heap.size w w' := by
  obtain ⟨es, l, idk, ink, a1, a2, a3, a4, a5, a6, a7, a8, a9, a10⟩ := acc_at hok hk
  have hc := accepts_any ve vi vn vl n s ls k es l idk ink w h hl a1 a2 a3 a4 a5 a6 a7 a8 a9
  rw [← a10] at hc
  have Hc := Lib.hid hc
  obtain ⟨AL, cL, rfl, hlL, hmL, _⟩ := hl
  obtain ⟨⟨A, c, rfl, hlc, hm, _⟩, ⟨A2, c2', rfl, _, hm2', _⟩, ⟨A3, c3', rfl, _, hm3', _⟩⟩ := h
  clear hc hok a3 a5 a6 a7 a8 a9 a10
  go_enter Try.func111, Try.ntmps111
  go_wp2_with fail
  refine Hc.out.mono ?_
  rintro e w2 ⟨rfl, hb⟩
  have Hb := Lib.hid hb
  clear hb
  go_wp2
  go_ret
  exact ⟨rfl, Hb.out⟩
set_option maxRecDepth 100000 in
set_option maxHeartbeats 8000000 in
theorem rejecting_any (ve vi vn vl : Value) (n : Net) (s : Int) (ls : List Int) (w : World) (h : NetIn w ve vi vn n) (hl : IntS w vl ls) (hok : labOk n s ls = true) :
    Calls Try.prog 57 #[.agg #[ve, vi, vn], .int .i64 s, vl] w fun e w' => ∃ u, e = .returned u ∧ Own w' w.heap.size u (rejL n s ls) ∧ Below w.heap.size w w' := by
  have HL0 := Lib.hid hl
  obtain ⟨AL, cL, rfl, hlL, hmL, _⟩ := hl
  unfold maxLen at hmL
  obtain ⟨w0, hw0⟩ : ∃ w0, w0 = (((w).alloc (.cells #[ve, vi, vn] 31)).alloc (.cells #[.int .i64 s] 3)).alloc (.cells #[.slice AL ls.length cL] 23) := ⟨_, rfl⟩
  have hb0 : Below w.heap.size w w0 := by rw [hw0]; exact ((((Below.refl _ _).alloc (by simp <;> omega) _).alloc (by simp <;> omega) _).alloc (by simp <;> omega) _)
  have H := Lib.hid (h.keep hb0)
  obtain ⟨h1, h2, h3⟩ := h.keep hb0
  obtain ⟨A, c, rfl, hlc, hm, hA⟩ := h1
  obtain ⟨A2, c2, rfl, _, hm2, _⟩ := h2
  obtain ⟨A3, c3, rfl, _, hm3, _⟩ := h3
  unfold maxLen at hm hm2 hm3
  have p00 : ∀ W, Since w0 W → W.cell? ⟨w.heap.size, 0, none⟩ = some (.slice A n.ends.length c) := have_cell (by rw [hw0]; simp [go_sem])
  have p01 : ∀ W, Since w0 W → W.cell? ⟨w.heap.size, 1, none⟩ = some (.slice A2 n.ids.length c2) := have_cell (by rw [hw0]; simp [go_sem])
  have p02 : ∀ W, Since w0 W → W.cell? ⟨w.heap.size, 2, none⟩ = some (.slice A3 n.inputs.length c3) := have_cell (by rw [hw0]; simp [go_sem])
  have p10 : ∀ W, Since w0 W → W.cell? ⟨w.heap.size + 1, 0, none⟩ = some (.int .i64 s) := have_cell (by rw [hw0]; simp [go_sem])
  have p20 : ∀ W, Since w0 W → W.cell? ⟨w.heap.size + 1 + 1, 0, none⟩ = some (.slice AL ls.length cL) := have_cell (by rw [hw0]; simp [go_sem])
  have Hb0 := Lib.hid hb0
  have Hw0 := Lib.hid hw0
  have HA := Lib.hid hA
  clear hA h
  clear hb0 hw0
  have HL := Lib.hid (HL0.out.keep Hb0.out)
  have hle : n.ends.length ≤ 1000000 := by have := labOk_net hok; omega
  have Hln := Lib.hid (labOk_net hok).2.1
  have HP : Hid (PredOn w0 111 #[.pointer (some ⟨w.heap.size, 0, none⟩), .pointer (some ⟨w.heap.size + 1, 0, none⟩), .pointer (some ⟨w.heap.size + 1 + 1, 0, none⟩)] (fun v => accAt n s ls v.toNat) (upto n.ends.length)) := by
    intro x hx X hX
    obtain ⟨k, hk, rfl⟩ := List.mem_map.1 hx
    have hk' := List.mem_range.1 hk
    exact rejc_any (.slice A n.ends.length c) (.slice A2 n.ids.length c2) (.slice A3 n.inputs.length c3) (.slice AL ls.length cL) n s ls k w.heap.size X (H.out.keep hX) (HL.out.keep hX) hok hk' (p00 X hX) (p01 X hX) (p02 X hX) (p10 X hX) (p20 X hX)
  have hs0 : Since w0 w0 := since_refl _
  clear hok
  go_enter Try.func57, Try.ntmps57
  go_upto_region 1 with (fail)
  rw [← Hw0.out]
  go_wp2_with fail
  refine (numbersTo_any n.ends.length hle w0).mono ?_
  rintro e W3 ⟨u3, rfl, ho3, hb3⟩
  have Ho3 := Lib.hid ho3
  have Hs3 : Hid (Since w0 W3) := hb3
  clear ho3 hb3 hs0
  go_wp2_with fail
  refine (deleteFunc_any _ (upto n.ends.length) _ _ (fun v => accAt n s ls v.toNat) _ w0 Ho3.out Hs3.out (by rw [upto_len]; omega) rej1_ent HP.out).mono ?_
  rintro e W4 ⟨u4, rfl, ho4, hs4⟩
  have Ho4 := Lib.hid ho4
  have Hs4 := Lib.hid hs4
  clear ho4 hs4
  go_wp2
  go_ret
  exact ⟨_, rfl, by unfold rejL; rw [Hln.out]; exact Ho4.out.mono Hb0.out.size, Since.after Hb0.out Hs4.out⟩
def fnExactRejectingNodes_r1 (n : Net) (s : Int) (ls : List Int) : Bool := labOk n s ls
def fnExactRejectingNodes_d (n : Net) (s : Int) (ls : List Int) : List Int := if labOk n s ls then rejL n s ls else []
def fnExactIsAccepted_r1 (n : Net) (s : Int) (ls : List Int) : Bool := labOk n s ls
def fnExactIsAccepted_r0 (n : Net) (s : Int) (ls : List Int) : Bool := labOk n s ls && (rejL n s ls).length == 0
theorem fnExactRejectingNodes_dl (n : Net) (s : Int) (ls : List Int) (_ : szNet n ≤ 1048576) (hb : ls.length ≤ 1048576) : (fnExactRejectingNodes_d n s ls).length ≤ 4611686018427387904 := by
  unfold fnExactRejectingNodes_d
  split
  · have := rejL_le n s ls
    omega
  · simp
set_option maxHeartbeats 4000000 in
theorem fnExactRejectingNodes_spec (ve vi vn : Value) (n : Net) (s : Int) (vl : Value) (ls : List Int) (w : World) (h : NetIn w ve vi vn n) (_ : -9223372036854775808 ≤ s ∧ s ≤ 9223372036854775807) (hl : IntS w vl ls) (hsz : szNet n ≤ 1048576) (hbig : ls.length ≤ 1048576) :
    Calls Try.prog 15 #[.agg #[ve, vi, vn], .int .i64 s, vl] w fun e w' => ∃ u, e = .returned (.tuple #[u, .bool (fnExactRejectingNodes_r1 n s ls)]) ∧ Own w' w.heap.size u (fnExactRejectingNodes_d n s ls) ∧ Below w.heap.size w w' := by
  obtain ⟨w0, hw0⟩ : ∃ w0, w0 = (w).alloc (.cells #[ve, vi, vn] 31) := ⟨_, rfl⟩
  have hb0 : Below w.heap.size w w0 := by rw [hw0]; exact ((Below.refl _ _).alloc (by simp) _)
  have H := Lib.hid (h.keep hb0)
  obtain ⟨h1, h2, h3⟩ := h.keep hb0
  obtain ⟨A, c, rfl, hlc, hm, hA⟩ := h1
  obtain ⟨A2, c2, rfl, _, hm2, _⟩ := h2
  obtain ⟨A3, c3, rfl, _, hm3, _⟩ := h3
  unfold maxLen at hm hm2 hm3
  have p00 : ∀ W, Since w0 W → W.cell? ⟨w.heap.size, 0, none⟩ = some (.slice A n.ends.length c) := have_cell (by rw [hw0]; simp)
  have p01 : ∀ W, Since w0 W → W.cell? ⟨w.heap.size, 1, none⟩ = some (.slice A2 n.ids.length c2) := have_cell (by rw [hw0]; simp)
  have p02 : ∀ W, Since w0 W → W.cell? ⟨w.heap.size, 2, none⟩ = some (.slice A3 n.inputs.length c3) := have_cell (by rw [hw0]; simp)
  have Hb0 := Lib.hid hb0
  have Hw0 := Lib.hid hw0
  have HA := Lib.hid hA
  clear hA h
  clear hb0 hw0
  have HL := Lib.hid (hl.keep Hb0.out)
  obtain ⟨AL, cL, rfl, hlL, hmL, _⟩ := hl
  unfold maxLen at hmL
  have hs0 : Since w0 w0 := since_refl _
  cases hok : labOk n s ls
  · have Hok := Lib.hid hok
    clear hok
    go_enter Try.func15, Try.ntmps15
    go_upto_region 1 with (fail)
    rw [← Hw0.out]
    go_wp2_with fail
    refine (plLabels_any _ _ _ _ n s ls _ H.out HL.out).mono ?_
    rw [Hok.out]
    rintro e W1 ⟨rfl, hb1⟩
    have Hs1 : Hid (Since w0 W1) := hb1
    clear hb1 hs0
    go_wp2
    go_ret2
    exact ⟨_, congrArg (fun b => Ending.returned (.tuple #[_, .bool b])) (show false = fnExactRejectingNodes_r1 n s ls from Hok.out.symm), by rw [show fnExactRejectingNodes_d n s ls = [] by simp [fnExactRejectingNodes_d, Hok.out]]; exact own_nil _ _, Since.after Hb0.out Hs1.out⟩
  · have Hok := Lib.hid hok
    clear hok
    go_enter Try.func15, Try.ntmps15
    go_upto_region 1 with (fail)
    rw [← Hw0.out]
    go_wp2_with fail
    refine (plLabels_any _ _ _ _ n s ls _ H.out HL.out).mono ?_
    rw [Hok.out]
    rintro e W1 ⟨rfl, hb1⟩
    have hs1 : Since w0 W1 := hb1
    clear hb1 hs0
    go_wp2_with fail
    refine (plRejects_any _ _ _ _ n s ls _ (H.out.keep hs1.below) (HL.out.keep hs1.below) Hok.out).mono ?_
    rintro e W2 ⟨u, rfl, ho, hb⟩
    have Ho := Lib.hid ho
    have Hs2 := Lib.hid (hs1.trans hb)
    have Hsz := Lib.hid (Since.below hs1).size
    clear ho hb hs1
    go_wp2
    go_ret2
    exact ⟨_, congrArg (fun b => Ending.returned (.tuple #[_, .bool b])) (show true = fnExactRejectingNodes_r1 n s ls from Hok.out.symm), by rw [show fnExactRejectingNodes_d n s ls = rejL n s ls by simp [fnExactRejectingNodes_d, Hok.out]]; exact Ho.out.mono (Nat.le_trans Hb0.out.size Hsz.out), Since.after Hb0.out Hs2.out⟩
set_option maxHeartbeats 4000000 in
theorem fnExactRejectingNodes_impl (ve vi vn : Value) (n : Net) (s : Int) (vl : Value) (ls : List Int) (w : World) (h : NetIn w ve vi vn n) (_ : -9223372036854775808 ≤ s ∧ s ≤ 9223372036854775807) (hl : IntS w vl ls) (hsz : szNet n ≤ 1048576) (hbig : ls.length ≤ 1048576) :
    Calls Try.prog 18 #[.agg #[ve, vi, vn], .int .i64 s, vl] w fun e w' => ∃ u, e = .returned (.tuple #[u, .bool (fnExactRejectingNodes_r1 n s ls)]) ∧ Own w' w.heap.size u (fnExactRejectingNodes_d n s ls) ∧ Below w.heap.size w w' := by
  obtain ⟨w0, hw0⟩ : ∃ w0, w0 = (w).alloc (.cells #[ve, vi, vn] 31) := ⟨_, rfl⟩
  have hb0 : Below w.heap.size w w0 := by rw [hw0]; exact ((Below.refl _ _).alloc (by simp) _)
  have H := Lib.hid (h.keep hb0)
  obtain ⟨h1, h2, h3⟩ := h.keep hb0
  obtain ⟨A, c, rfl, hlc, hm, hA⟩ := h1
  obtain ⟨A2, c2, rfl, _, hm2, _⟩ := h2
  obtain ⟨A3, c3, rfl, _, hm3, _⟩ := h3
  unfold maxLen at hm hm2 hm3
  have p00 : ∀ W, Since w0 W → W.cell? ⟨w.heap.size, 0, none⟩ = some (.slice A n.ends.length c) := have_cell (by rw [hw0]; simp)
  have p01 : ∀ W, Since w0 W → W.cell? ⟨w.heap.size, 1, none⟩ = some (.slice A2 n.ids.length c2) := have_cell (by rw [hw0]; simp)
  have p02 : ∀ W, Since w0 W → W.cell? ⟨w.heap.size, 2, none⟩ = some (.slice A3 n.inputs.length c3) := have_cell (by rw [hw0]; simp)
  have Hb0 := Lib.hid hb0
  have Hw0 := Lib.hid hw0
  have HA := Lib.hid hA
  clear hA h
  clear hb0 hw0
  have HL := Lib.hid (hl.keep Hb0.out)
  obtain ⟨AL, cL, rfl, hlL, hmL, _⟩ := hl
  unfold maxLen at hmL
  have hs0 : Since w0 w0 := since_refl _
  cases hok : labOk n s ls
  · have Hok := Lib.hid hok
    clear hok
    go_enter Try.func18, Try.ntmps18
    go_upto_region 1 with (fail)
    rw [← Hw0.out]
    go_wp2_with fail
    refine (labelsOk_any _ _ _ _ n s ls _ H.out HL.out hsz).mono ?_
    rw [Hok.out]
    rintro e W1 ⟨rfl, hb1⟩
    have Hs1 : Hid (Since w0 W1) := hb1
    clear hb1 hs0
    go_wp2
    go_ret2
    exact ⟨_, congrArg (fun b => Ending.returned (.tuple #[_, .bool b])) (show false = fnExactRejectingNodes_r1 n s ls from Hok.out.symm), by rw [show fnExactRejectingNodes_d n s ls = [] by simp [fnExactRejectingNodes_d, Hok.out]]; exact own_nil _ _, Since.after Hb0.out Hs1.out⟩
  · have Hok := Lib.hid hok
    clear hok
    go_enter Try.func18, Try.ntmps18
    go_upto_region 1 with (fail)
    rw [← Hw0.out]
    go_wp2_with fail
    refine (labelsOk_any _ _ _ _ n s ls _ H.out HL.out hsz).mono ?_
    rw [Hok.out]
    rintro e W1 ⟨rfl, hb1⟩
    have hs1 : Since w0 W1 := hb1
    clear hb1 hs0
    go_wp2_with fail
    refine (rejecting_any _ _ _ _ n s ls _ (H.out.keep hs1.below) (HL.out.keep hs1.below) Hok.out).mono ?_
    rintro e W2 ⟨u, rfl, ho, hb⟩
    have Ho := Lib.hid ho
    have Hs2 := Lib.hid (hs1.trans hb)
    have Hsz := Lib.hid (Since.below hs1).size
    clear ho hb hs1
    go_wp2
    go_ret2
    exact ⟨_, congrArg (fun b => Ending.returned (.tuple #[_, .bool b])) (show true = fnExactRejectingNodes_r1 n s ls from Hok.out.symm), by rw [show fnExactRejectingNodes_d n s ls = rejL n s ls by simp [fnExactRejectingNodes_d, Hok.out]]; exact Ho.out.mono (Nat.le_trans Hb0.out.size Hsz.out), Since.after Hb0.out Hs2.out⟩
end Go.Proofs.Ytbfoefkfcnaimaa
