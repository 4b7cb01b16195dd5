import Derived.Test.YtaplbmgnfdikdaaVer8
import Derived.Test.YtaplbmgnfdikdaaDel
import Derived.Test.YtaplbmgnfdikdaaLawKit
namespace Go.Proofs.Ytaplbmgnfdikdaa
open Go.RowKit
/-- the nodes that reject -/
def rejL (n : Net) (s : Int) (ls : List Int) : List Int := keptB (fun v => accAt n s ls v.toNat) (upto ls.length)
theorem rejL_le (n : Net) (s : Int) (ls : List Int) : (rejL n s ls).length ≤ ls.length := by
  have := kept_le (fun v => accAt n s ls v.toNat) (upto ls.length)
  rw [upto_len] at this
  exact this
theorem kept_snoc' (p : Int → Bool) (k : Nat) : keptB p (upto (k + 1)) = keptB p (upto k) ++ if p k then [] else [(k : Int)] := by
  rw [upto_snoc]
  unfold keptB
  rw [List.filter_append]
  congr 1
  cases h : p (k : Int) <;> simp [h]
set_option maxRecDepth 100000 in
set_option maxHeartbeats 8000000 in
theorem plRejects_any (ve vi vn vl : Value) (n : Net) (s : Int) (ls : List Int) (w : World) (h : NetIn w ve vi vn n) (hl : IntS w vl ls) (hok : labOk n s ls = true) :
    Calls Try.prog 85 #[.agg #[ve, vi, vn], .int .i64 s, vl] w fun e w' => ∃ u, e = .returned u ∧ Own w' w.heap.size u (rejL n s ls) ∧ Below w.heap.size w w' := by
  obtain ⟨w0, hw0⟩ : ∃ w0, w0 = (w).alloc (.cells #[ve, vi, vn] 31) := ⟨_, rfl⟩
  have hb0 : Below w.heap.size w w0 := by rw [hw0]; exact ((Below.refl _ _).alloc (by simp) _)
  have H := Lib.hid (h.keep hb0)
  obtain ⟨h1, h2, h3⟩ := h.keep hb0
  obtain ⟨A, c, rfl, hlc, hm, hA⟩ := h1
  obtain ⟨A2, c2, rfl, _, hm2, _⟩ := h2
  obtain ⟨A3, c3, rfl, _, hm3, _⟩ := h3
  unfold maxLen at hm hm2 hm3
  have p00 : ∀ W, Since w0 W → W.cell? ⟨w.heap.size, 0, none⟩ = some (.slice A n.ends.length c) := have_cell (by rw [hw0]; simp)
  have p01 : ∀ W, Since w0 W → W.cell? ⟨w.heap.size, 1, none⟩ = some (.slice A2 n.ids.length c2) := have_cell (by rw [hw0]; simp)
  have p02 : ∀ W, Since w0 W → W.cell? ⟨w.heap.size, 2, none⟩ = some (.slice A3 n.inputs.length c3) := have_cell (by rw [hw0]; simp)
  have Hb0 := Lib.hid hb0
  have Hw0 := Lib.hid hw0
  have HA := Lib.hid hA
  clear hA h
  clear hb0 hw0
  have HL := Lib.hid (hl.keep Hb0.out)
  obtain ⟨AL, cL, rfl, hlL, hmL, _⟩ := hl
  unfold maxLen at hmL
  have Hok := Lib.hid hok
  have hle : ls.length ≤ 40 := by have := labOk_net hok; omega
  have hs0 : Since w0 w0 := since_refl _
  clear hok
  go_enter Try.func85, Try.ntmps85
  go_upto_region 1 with (fail)
  rw [← Hw0.out]
  go_wp2
  go_loopw [7, 11] (fun u i wr => ∃ k : Nat, k ≤ ls.length ∧ i = .int .i64 k ∧ Own wr w0.heap.size u (keptB (fun v => accAt n s ls v.toNat) (upto k)) ∧ Since w0 wr) (fun _ i _ => ls.length - (intOf i).toNat)
  case atStart => exact ⟨0, Nat.zero_le _, rfl, by simpa [keptB, upto] using own_nil _ w0.heap.size, hs0⟩
  case round =>
    obtain ⟨k, hk, rfl, ho, hs⟩ := hrel
    have Ho := Lib.hid ho
    clear ho hs0
    by_cases hlt : k < ls.length
    · obtain ⟨es, l, idk, ink, a1, a2, a3, a4, a5, a6, a7, a8, a9, a10⟩ := acc_at Hok.out (k := k) (by have := labOk_net Hok.out; omega)
      have HA := Lib.hid (And.intro a3 (And.intro a5 (And.intro a6 (And.intro a7 (And.intro a8 (And.intro a9 a10))))))
      have Hlen : Hid ((keptB (fun v => accAt n s ls v.toNat) (upto k)).length + 1 ≤ 17592186044416) := by
        have := kept_le (fun v => accAt n s ls v.toNat) (upto k)
        rw [upto_len] at this
        show _ ≤ _
        omega
      clear a3 a5 a6 a7 a8 a9 a10
      go_wp2_with fail
      refine (plAt_any _ _ _ _ n s ls k es l idk ink _ (H.out.keep hs.below) (HL.out.keep hs.below) a1 a2 HA.out.1 a4 HA.out.2.1 HA.out.2.2.1 HA.out.2.2.2.1 HA.out.2.2.2.2.1 HA.out.2.2.2.2.2.1).mono ?_
      rw [← HA.out.2.2.2.2.2.2]
      rintro e W2 ⟨rfl, hb2⟩
      have hs2 := Since.trans hs hb2
      have Ho2 := Lib.hid (Ho.out.keep hb2)
      cases hp : accAt n s ls k
      · have Hp := Lib.hid (show (fun v : Int => accAt n s ls v.toNat) (k : Int) = false by simpa using hp)
        clear hs hb2 hp
        go_wp2_with (at_builtin; refine app_int_s rfl _ _ rfl rfl (Ho2.out.since (since_alloc _ (since_refl _))) W2.heap.size k rfl (by simp [go_sem]) Hlen.out (since_alloc _ hs2) ?_; intro g cc w2 ho2 hs3)
        have Ho3 := Lib.hid ho2
        have Hs3 := Lib.hid hs3
        clear ho2 hs3 hs2
        go_wp2
        go_roundw
        case rel => exact ⟨k + 1, by omega, by go_num, by rw [kept_snoc', Hp.out]; exact Ho3.out, Hs3.out⟩
        case measure => simp [intOf]; omega
      · have Hp := Lib.hid (show (fun v : Int => accAt n s ls v.toNat) (k : Int) = true by simpa using hp)
        clear hs hb2 hp
        go_wp2
        go_roundw
        case rel => exact ⟨k + 1, by omega, by go_num, by rw [kept_snoc', Hp.out]; simpa using Ho2.out, hs2⟩
        case measure => simp [intOf]; omega
    · obtain rfl : k = ls.length := by omega
      go_wp2
      go_ret
      exact ⟨_, rfl, Ho.out.mono Hb0.out.size, Since.after Hb0.out hs⟩
theorem rej1_ent : ∀ args w, (callFunc 131 args).run Try.prog w = .ok (.enter 131 args) w := enters_of Try.func131 (by kernel_rfl) rfl
set_option maxHeartbeats 2000000 in
theorem rejc_any (ve vi vn vl : Value) (n : Net) (s : Int) (ls : List Int) (k b : Nat) (w : World) (h : NetIn w ve vi vn n) (hl : IntS w vl ls) (hok : labOk n s ls = true) (hk : k < n.ends.length)
    (c0 : w.cell? ⟨b, 0, none⟩ = some ve) (c1 : w.cell? ⟨b, 1, none⟩ = some vi) (c2 : w.cell? ⟨b, 2, none⟩ = some vn) (c3 : w.cell? ⟨b + 1, 0, none⟩ = some (.int .i64 s)) (c4 : w.cell? ⟨b + 1 + 1, 0, none⟩ = some vl) :
    Calls Try.prog 131 #[.int .i64 k, .pointer (some ⟨b, 0, none⟩), .pointer (some ⟨b + 1, 0, none⟩), .pointer (some ⟨b + 1 + 1, 0, none⟩)] w fun e w' => e = .returned (.bool (accAt n s ls k)) ∧ Below w.heap.size w w' := by
  obtain ⟨es, l, idk, ink, a1, a2, a3, a4, a5, a6, a7, a8, a9, a10⟩ := acc_at hok hk
  have hc := accepts_any ve vi vn vl n s ls k es l idk ink w h hl a1 a2 a3 a4 a5 a6 a7 a8 a9
  rw [← a10] at hc
  have Hc := Lib.hid hc
  obtain ⟨AL, cL, rfl, hlL, hmL, _⟩ := hl
  obtain ⟨⟨A, c, rfl, hlc, hm, _⟩, ⟨A2, c2', rfl, _, hm2', _⟩, ⟨A3, c3', rfl, _, hm3', _⟩⟩ := h
  clear hc hok a3 a5 a6 a7 a8 a9 a10
  go_enter Try.func131, Try.ntmps131
  go_wp2_with fail
  refine Hc.out.mono ?_
  rintro e w2 ⟨rfl, hb⟩
  have Hb := Lib.hid hb
  clear hb
  go_wp2
  go_ret
  exact ⟨rfl, Hb.out⟩
set_option maxRecDepth 100000 in
set_option maxHeartbeats 8000000 in
theorem rejecting_any (ve vi vn vl : Value) (n : Net) (s : Int) (ls : List Int) (w : World) (h : NetIn w ve vi vn n) (hl : IntS w vl ls) (hok : labOk n s ls = true) :
    Calls Try.prog 86 #[.agg #[ve, vi, vn], .int .i64 s, vl] w fun e w' => ∃ u, e = .returned u ∧ Own w' w.heap.size u (rejL n s ls) ∧ Below w.heap.size w w' := by
  have HL0 := Lib.hid hl
  obtain ⟨AL, cL, rfl, hlL, hmL, _⟩ := hl
  unfold maxLen at hmL
  obtain ⟨w0, hw0⟩ : ∃ w0, w0 = (((w).alloc (.cells #[ve, vi, vn] 31)).alloc (.cells #[.int .i64 s] 3)).alloc (.cells #[.slice AL ls.length cL] 23) := ⟨_, rfl⟩
  have hb0 : Below w.heap.size w w0 := by rw [hw0]; exact ((((Below.refl _ _).alloc (by simp <;> omega) _).alloc (by simp <;> omega) _).alloc (by simp <;> omega) _)
  have H := Lib.hid (h.keep hb0)
  obtain ⟨h1, h2, h3⟩ := h.keep hb0
  obtain ⟨A, c, rfl, hlc, hm, hA⟩ := h1
  obtain ⟨A2, c2, rfl, _, hm2, _⟩ := h2
  obtain ⟨A3, c3, rfl, _, hm3, _⟩ := h3
  unfold maxLen at hm hm2 hm3
  have p00 : ∀ W, Since w0 W → W.cell? ⟨w.heap.size, 0, none⟩ = some (.slice A n.ends.length c) := have_cell (by rw [hw0]; simp [go_sem])
  have p01 : ∀ W, Since w0 W → W.cell? ⟨w.heap.size, 1, none⟩ = some (.slice A2 n.ids.length c2) := have_cell (by rw [hw0]; simp [go_sem])
  have p02 : ∀ W, Since w0 W → W.cell? ⟨w.heap.size, 2, none⟩ = some (.slice A3 n.inputs.length c3) := have_cell (by rw [hw0]; simp [go_sem])
  have p10 : ∀ W, Since w0 W → W.cell? ⟨w.heap.size + 1, 0, none⟩ = some (.int .i64 s) := have_cell (by rw [hw0]; simp [go_sem])
  have p20 : ∀ W, Since w0 W → W.cell? ⟨w.heap.size + 1 + 1, 0, none⟩ = some (.slice AL ls.length cL) := have_cell (by rw [hw0]; simp [go_sem])
  have Hb0 := Lib.hid hb0
  have Hw0 := Lib.hid hw0
  have HA := Lib.hid hA
  clear hA h
  clear hb0 hw0
  have HL := Lib.hid (HL0.out.keep Hb0.out)
  have hle : n.ends.length ≤ 1000000 := by have := labOk_net hok; omega
  have Hln := Lib.hid (labOk_net hok).2.1
  have HP : Hid (PredOn w0 131 #[.pointer (some ⟨w.heap.size, 0, none⟩), .pointer (some ⟨w.heap.size + 1, 0, none⟩), .pointer (some ⟨w.heap.size + 1 + 1, 0, none⟩)] (fun v => accAt n s ls v.toNat) (upto n.ends.length)) := by
    intro x hx X hX
    obtain ⟨k, hk, rfl⟩ := List.mem_map.1 hx
    have hk' := List.mem_range.1 hk
    exact rejc_any (.slice A n.ends.length c) (.slice A2 n.ids.length c2) (.slice A3 n.inputs.length c3) (.slice AL ls.length cL) n s ls k w.heap.size X (H.out.keep hX) (HL.out.keep hX) hok hk' (p00 X hX) (p01 X hX) (p02 X hX) (p10 X hX) (p20 X hX)
  have hs0 : Since w0 w0 := since_refl _
  clear hok
  go_enter Try.func86, Try.ntmps86
  go_upto_region 1 with (fail)
  rw [← Hw0.out]
  go_wp2_with fail
  refine (numbersTo_any n.ends.length hle w0).mono ?_
  rintro e W3 ⟨u3, rfl, ho3, hb3⟩
  have Ho3 := Lib.hid ho3
  have Hs3 : Hid (Since w0 W3) := hb3
  clear ho3 hb3 hs0
  go_wp2_with fail
  refine (deleteFunc_any _ (upto n.ends.length) _ _ (fun v => accAt n s ls v.toNat) _ w0 Ho3.out Hs3.out (by rw [upto_len]; omega) rej1_ent HP.out).mono ?_
  rintro e W4 ⟨u4, rfl, ho4, hs4⟩
  have Ho4 := Lib.hid ho4
  have Hs4 := Lib.hid hs4
  clear ho4 hs4
  go_wp2
  go_ret
  exact ⟨_, rfl, by unfold rejL; rw [Hln.out]; exact Ho4.out.mono Hb0.out.size, Since.after Hb0.out Hs4.out⟩
def fnExactRejectingNodes_r1 (n : Net) (s : Int) (ls : List Int) : Bool := labOk n s ls
def fnExactRejectingNodes_d (n : Net) (s : Int) (ls : List Int) : List Int := if labOk n s ls then rejL n s ls else []
def fnExactIsAccepted_r1 (n : Net) (s : Int) (ls : List Int) : Bool := labOk n s ls
def fnExactIsAccepted_r0 (n : Net) (s : Int) (ls : List Int) : Bool := labOk n s ls && (rejL n s ls).length == 0
theorem fnExactRejectingNodes_dl (n : Net) (s : Int) (ls : List Int) (_ : szNet n ≤ 1048576) (hb : ls.length ≤ 1048576) : (fnExactRejectingNodes_d n s ls).length ≤ 4611686018427387904 := by
  unfold fnExactRejectingNodes_d
  split
  · have := rejL_le n s ls
    omega
  · simp
set_option maxHeartbeats 4000000 in
theorem fnExactRejectingNodes_spec (ve vi vn : Value) (n : Net) (s : Int) (vl : Value) (ls : List Int) (w : World) (h : NetIn w ve vi vn n) (_ : -9223372036854775808 ≤ s ∧ s ≤ 9223372036854775807) (hl : IntS w vl ls) (hsz : szNet n ≤ 1048576) (hbig : ls.length ≤ 1048576) :
    Calls Try.prog 39 #[.agg #[ve, vi, vn], .int .i64 s, vl] w fun e w' => ∃ u, e = .returned (.tuple #[u, .bool (fnExactRejectingNodes_r1 n s ls)]) ∧ Own w' w.heap.size u (fnExactRejectingNodes_d n s ls) ∧ Below w.heap.size w w' := by
  obtain ⟨w0, hw0⟩ : ∃ w0, w0 = (w).alloc (.cells #[ve, vi, vn] 31) := ⟨_, rfl⟩
  have hb0 : Below w.heap.size w w0 := by rw [hw0]; exact ((Below.refl _ _).alloc (by simp) _)
  have H := Lib.hid (h.keep hb0)
  obtain ⟨h1, h2, h3⟩ := h.keep hb0
  obtain ⟨A, c, rfl, hlc, hm, hA⟩ := h1
  obtain ⟨A2, c2, rfl, _, hm2, _⟩ := h2
  obtain ⟨A3, c3, rfl, _, hm3, _⟩ := h3
  unfold maxLen at hm hm2 hm3
  have p00 : ∀ W, Since w0 W → W.cell? ⟨w.heap.size, 0, none⟩ = some (.slice A n.ends.length c) := have_cell (by rw [hw0]; simp)
  have p01 : ∀ W, Since w0 W → W.cell? ⟨w.heap.size, 1, none⟩ = some (.slice A2 n.ids.length c2) := have_cell (by rw [hw0]; simp)
  have p02 : ∀ W, Since w0 W → W.cell? ⟨w.heap.size, 2, none⟩ = some (.slice A3 n.inputs.length c3) := have_cell (by rw [hw0]; simp)
  have Hb0 := Lib.hid hb0
  have Hw0 := Lib.hid hw0
  have HA := Lib.hid hA
  clear hA h
  clear hb0 hw0
  have HL := Lib.hid (hl.keep Hb0.out)
  obtain ⟨AL, cL, rfl, hlL, hmL, _⟩ := hl
  unfold maxLen at hmL
  have hs0 : Since w0 w0 := since_refl _
  cases hok : labOk n s ls
  · have Hok := Lib.hid hok
    clear hok
    go_enter Try.func39, Try.ntmps39
    go_upto_region 1 with (fail)
    rw [← Hw0.out]
    go_wp2_with fail
    refine (plLabels_any _ _ _ _ n s ls _ H.out HL.out).mono ?_
    rw [Hok.out]
    rintro e W1 ⟨rfl, hb1⟩
    have Hs1 : Hid (Since w0 W1) := hb1
    clear hb1 hs0
    go_wp2
    go_ret2
    exact ⟨_, congrArg (fun b => Ending.returned (.tuple #[_, .bool b])) (show false = fnExactRejectingNodes_r1 n s ls from Hok.out.symm), by rw [show fnExactRejectingNodes_d n s ls = [] by simp [fnExactRejectingNodes_d, Hok.out]]; exact own_nil _ _, Since.after Hb0.out Hs1.out⟩
  · have Hok := Lib.hid hok
    clear hok
    go_enter Try.func39, Try.ntmps39
    go_upto_region 1 with (fail)
    rw [← Hw0.out]
    go_wp2_with fail
    refine (plLabels_any _ _ _ _ n s ls _ H.out HL.out).mono ?_
    rw [Hok.out]
    rintro e W1 ⟨rfl, hb1⟩
    have hs1 : Since w0 W1 := hb1
    clear hb1 hs0
    go_wp2_with fail
    refine (plRejects_any _ _ _ _ n s ls _ (H.out.keep hs1.below) (HL.out.keep hs1.below) Hok.out).mono ?_
    rintro e W2 ⟨u, rfl, ho, hb⟩
    have Ho := Lib.hid ho
    have Hs2 := Lib.hid (hs1.trans hb)
    have Hsz := Lib.hid (Since.below hs1).size
    clear ho hb hs1
    go_wp2
    go_ret2
    exact ⟨_, congrArg (fun b => Ending.returned (.tuple #[_, .bool b])) (show true = fnExactRejectingNodes_r1 n s ls from Hok.out.symm), by rw [show fnExactRejectingNodes_d n s ls = rejL n s ls by simp [fnExactRejectingNodes_d, Hok.out]]; exact Ho.out.mono (Nat.le_trans Hb0.out.size Hsz.out), Since.after Hb0.out Hs2.out⟩
set_option maxHeartbeats 4000000 in
theorem fnExactRejectingNodes_impl (ve vi vn : Value) (n : Net) (s : Int) (vl : Value) (ls : List Int) (w : World) (h : NetIn w ve vi vn n) (_ : -9223372036854775808 ≤ s ∧ s ≤ 9223372036854775807) (hl : IntS w vl ls) (hsz : szNet n ≤ 1048576) (hbig : ls.length ≤ 1048576) :
    Calls Try.prog 40 #[.agg #[ve, vi, vn], .int .i64 s, vl] w fun e w' => ∃ u, e = .returned (.tuple #[u, .bool (fnExactRejectingNodes_r1 n s ls)]) ∧ Own w' w.heap.size u (fnExactRejectingNodes_d n s ls) ∧ Below w.heap.size w w' := by
  obtain ⟨w0, hw0⟩ : ∃ w0, w0 = (w).alloc (.cells #[ve, vi, vn] 31) := ⟨_, rfl⟩
  have hb0 : Below w.heap.size w w0 := by rw [hw0]; exact ((Below.refl _ _).alloc (by simp) _)
  have H := Lib.hid (h.keep hb0)
  obtain ⟨h1, h2, h3⟩ := h.keep hb0
  obtain ⟨A, c, rfl, hlc, hm, hA⟩ := h1
  obtain ⟨A2, c2, rfl, _, hm2, _⟩ := h2
  obtain ⟨A3, c3, rfl, _, hm3, _⟩ := h3
  unfold maxLen at hm hm2 hm3
  have p00 : ∀ W, Since w0 W → W.cell? ⟨w.heap.size, 0, none⟩ = some (.slice A n.ends.length c) := have_cell (by rw [hw0]; simp)
  have p01 : ∀ W, Since w0 W → W.cell? ⟨w.heap.size, 1, none⟩ = some (.slice A2 n.ids.length c2) := have_cell (by rw [hw0]; simp)
  have p02 : ∀ W, Since w0 W → W.cell? ⟨w.heap.size, 2, none⟩ = some (.slice A3 n.inputs.length c3) := have_cell (by rw [hw0]; simp)
  have Hb0 := Lib.hid hb0
  have Hw0 := Lib.hid hw0
  have HA := Lib.hid hA
  clear hA h
  clear hb0 hw0
  have HL := Lib.hid (hl.keep Hb0.out)
  obtain ⟨AL, cL, rfl, hlL, hmL, _⟩ := hl
  unfold maxLen at hmL
  have hs0 : Since w0 w0 := since_refl _
  cases hok : labOk n s ls
  · have Hok := Lib.hid hok
    clear hok
    go_enter Try.func40, Try.ntmps40
    go_upto_region 1 with (fail)
    rw [← Hw0.out]
    go_wp2_with fail
    refine (labelsOk_any _ _ _ _ n s ls _ H.out HL.out hsz).mono ?_
    rw [Hok.out]
    rintro e W1 ⟨rfl, hb1⟩
    have Hs1 : Hid (Since w0 W1) := hb1
    clear hb1 hs0
    go_wp2
    go_ret2
    exact ⟨_, congrArg (fun b => Ending.returned (.tuple #[_, .bool b])) (show false = fnExactRejectingNodes_r1 n s ls from Hok.out.symm), by rw [show fnExactRejectingNodes_d n s ls = [] by simp [fnExactRejectingNodes_d, Hok.out]]; exact own_nil _ _, Since.after Hb0.out Hs1.out⟩
  · have Hok := Lib.hid hok
    clear hok
    go_enter Try.func40, Try.ntmps40
    go_upto_region 1 with (fail)
    rw [← Hw0.out]
    go_wp2_with fail
    refine (labelsOk_any _ _ _ _ n s ls _ H.out HL.out hsz).mono ?_
    rw [Hok.out]
    rintro e W1 ⟨rfl, hb1⟩
    have hs1 : Since w0 W1 := hb1
    clear hb1 hs0
    go_wp2_with fail
    refine (rejecting_any _ _ _ _ n s ls _ (H.out.keep hs1.below) (HL.out.keep hs1.below) Hok.out).mono ?_
    rintro e W2 ⟨u, rfl, ho, hb⟩
    have Ho := Lib.hid ho
    have Hs2 := Lib.hid (hs1.trans hb)
    have Hsz := Lib.hid (Since.below hs1).size
    clear ho hb hs1
    go_wp2
    go_ret2
    exact ⟨_, congrArg (fun b => Ending.returned (.tuple #[_, .bool b])) (show true = fnExactRejectingNodes_r1 n s ls from Hok.out.symm), by rw [show fnExactRejectingNodes_d n s ls = rejL n s ls by simp [fnExactRejectingNodes_d, Hok.out]]; exact Ho.out.mono (Nat.le_trans Hb0.out.size Hsz.out), Since.after Hb0.out Hs2.out⟩
set_option maxHeartbeats 4000000 in
theorem fnExactIsAccepted_spec (ve vi vn : Value) (n : Net) (s : Int) (vl : Value) (ls : List Int) (w : World) (h : NetIn w ve vi vn n) (_ : -9223372036854775808 ≤ s ∧ s ≤ 9223372036854775807) (hl : IntS w vl ls) (hsz : szNet n ≤ 1048576) (hbig : ls.length ≤ 1048576) :
    Calls Try.prog 37 #[.agg #[ve, vi, vn], .int .i64 s, vl] w fun e w' => e = .returned (.tuple #[.bool (fnExactIsAccepted_r0 n s ls), .bool (fnExactIsAccepted_r1 n s ls)]) ∧ Below w.heap.size w w' := by
  obtain ⟨w0, hw0⟩ : ∃ w0, w0 = (w).alloc (.cells #[ve, vi, vn] 31) := ⟨_, rfl⟩
  have hb0 : Below w.heap.size w w0 := by rw [hw0]; exact ((Below.refl _ _).alloc (by simp) _)
  have H := Lib.hid (h.keep hb0)
  obtain ⟨h1, h2, h3⟩ := h.keep hb0
  obtain ⟨A, c, rfl, hlc, hm, hA⟩ := h1
  obtain ⟨A2, c2, rfl, _, hm2, _⟩ := h2
  obtain ⟨A3, c3, rfl, _, hm3, _⟩ := h3
  unfold maxLen at hm hm2 hm3
  have p00 : ∀ W, Since w0 W → W.cell? ⟨w.heap.size, 0, none⟩ = some (.slice A n.ends.length c) := have_cell (by rw [hw0]; simp)
  have p01 : ∀ W, Since w0 W → W.cell? ⟨w.heap.size, 1, none⟩ = some (.slice A2 n.ids.length c2) := have_cell (by rw [hw0]; simp)
  have p02 : ∀ W, Since w0 W → W.cell? ⟨w.heap.size, 2, none⟩ = some (.slice A3 n.inputs.length c3) := have_cell (by rw [hw0]; simp)
  have Hb0 := Lib.hid hb0
  have Hw0 := Lib.hid hw0
  have HA := Lib.hid hA
  clear hA h
  clear hb0 hw0
  have HL := Lib.hid (hl.keep Hb0.out)
  obtain ⟨AL, cL, rfl, hlL, hmL, _⟩ := hl
  unfold maxLen at hmL
  have hs0 : Since w0 w0 := since_refl _
  cases hok : labOk n s ls
  · have Hok := Lib.hid hok
    clear hok
    go_enter Try.func37, Try.ntmps37
    go_upto_region 1 with (fail)
    rw [← Hw0.out]
    go_wp2_with fail
    refine (plLabels_any _ _ _ _ n s ls _ H.out HL.out).mono ?_
    rw [Hok.out]
    rintro e W1 ⟨rfl, hb1⟩
    have Hs1 : Hid (Since w0 W1) := hb1
    clear hb1 hs0
    go_wp2
    go_ret2
    exact ⟨tup2 (show false = fnExactIsAccepted_r0 n s ls by simp [fnExactIsAccepted_r0, Hok.out]) (show false = fnExactIsAccepted_r1 n s ls from Hok.out.symm), Since.after Hb0.out Hs1.out⟩
  · have Hok := Lib.hid hok
    clear hok
    go_enter Try.func37, Try.ntmps37
    go_upto_region 1 with (fail)
    rw [← Hw0.out]
    go_wp2_with fail
    refine (plLabels_any _ _ _ _ n s ls _ H.out HL.out).mono ?_
    rw [Hok.out]
    rintro e W1 ⟨rfl, hb1⟩
    have hs1 : Since w0 W1 := hb1
    clear hb1 hs0
    go_wp2_with fail
    refine (plRejects_any _ _ _ _ n s ls _ (H.out.keep hs1.below) (HL.out.keep hs1.below) Hok.out).mono ?_
    rintro e W2 ⟨u, rfl, ho, hb⟩
    have Ho := Lib.hid ho
    have Hs2 := Lib.hid (hs1.trans hb)
    have Hsz := Lib.hid (Since.below hs1).size
    obtain ⟨Bu, du, rfl, _⟩ := id ho.ints
    clear ho hb hs1
    go_wp2
    go_ret2
    exact ⟨tup2 (show _ = fnExactIsAccepted_r0 n s ls by rw [fnExactIsAccepted_r0, Hok.out, Bool.true_and]; first | rfl | (rw [Bool.eq_iff_iff]; simp)) (show true = fnExactIsAccepted_r1 n s ls from Hok.out.symm), Since.after Hb0.out Hs2.out⟩
set_option maxHeartbeats 4000000 in
theorem fnExactIsAccepted_impl (ve vi vn : Value) (n : Net) (s : Int) (vl : Value) (ls : List Int) (w : World) (h : NetIn w ve vi vn n) (_ : -9223372036854775808 ≤ s ∧ s ≤ 9223372036854775807) (hl : IntS w vl ls) (hsz : szNet n ≤ 1048576) (hbig : ls.length ≤ 1048576) :
    Calls Try.prog 38 #[.agg #[ve, vi, vn], .int .i64 s, vl] w fun e w' => e = .returned (.tuple #[.bool (fnExactIsAccepted_r0 n s ls), .bool (fnExactIsAccepted_r1 n s ls)]) ∧ Below w.heap.size w w' := by
  obtain ⟨w0, hw0⟩ : ∃ w0, w0 = (w).alloc (.cells #[ve, vi, vn] 31) := ⟨_, rfl⟩
  have hb0 : Below w.heap.size w w0 := by rw [hw0]; exact ((Below.refl _ _).alloc (by simp) _)
  have H := Lib.hid (h.keep hb0)
  obtain ⟨h1, h2, h3⟩ := h.keep hb0
  obtain ⟨A, c, rfl, hlc, hm, hA⟩ := h1
  obtain ⟨A2, c2, rfl, _, hm2, _⟩ := h2
  obtain ⟨A3, c3, rfl, _, hm3, _⟩ := h3
  unfold maxLen at hm hm2 hm3
  have p00 : ∀ W, Since w0 W → W.cell? ⟨w.heap.size, 0, none⟩ = some (.slice A n.ends.length c) := have_cell (by rw [hw0]; simp)
  have p01 : ∀ W, Since w0 W → W.cell? ⟨w.heap.size, 1, none⟩ = some (.slice A2 n.ids.length c2) := have_cell (by rw [hw0]; simp)
  have p02 : ∀ W, Since w0 W → W.cell? ⟨w.heap.size, 2, none⟩ = some (.slice A3 n.inputs.length c3) := have_cell (by rw [hw0]; simp)
  have Hb0 := Lib.hid hb0
  have Hw0 := Lib.hid hw0
  have HA := Lib.hid hA
  clear hA h
  clear hb0 hw0
  have HL := Lib.hid (hl.keep Hb0.out)
  obtain ⟨AL, cL, rfl, hlL, hmL, _⟩ := hl
  unfold maxLen at hmL
  have hs0 : Since w0 w0 := since_refl _
  cases hok : labOk n s ls
  · have Hok := Lib.hid hok
    clear hok
    go_enter Try.func38, Try.ntmps38
    go_upto_region 1 with (fail)
    rw [← Hw0.out]
    go_wp2_with fail
    refine (labelsOk_any _ _ _ _ n s ls _ H.out HL.out hsz).mono ?_
    rw [Hok.out]
    rintro e W1 ⟨rfl, hb1⟩
    have Hs1 : Hid (Since w0 W1) := hb1
    clear hb1 hs0
    go_wp2
    go_ret2
    exact ⟨tup2 (show false = fnExactIsAccepted_r0 n s ls by simp [fnExactIsAccepted_r0, Hok.out]) (show false = fnExactIsAccepted_r1 n s ls from Hok.out.symm), Since.after Hb0.out Hs1.out⟩
  · have Hok := Lib.hid hok
    clear hok
    go_enter Try.func38, Try.ntmps38
    go_upto_region 1 with (fail)
    rw [← Hw0.out]
    go_wp2_with fail
    refine (labelsOk_any _ _ _ _ n s ls _ H.out HL.out hsz).mono ?_
    rw [Hok.out]
    rintro e W1 ⟨rfl, hb1⟩
    have hs1 : Since w0 W1 := hb1
    clear hb1 hs0
    go_wp2_with fail
    refine (rejecting_any _ _ _ _ n s ls _ (H.out.keep hs1.below) (HL.out.keep hs1.below) Hok.out).mono ?_
    rintro e W2 ⟨u, rfl, ho, hb⟩
    have Ho := Lib.hid ho
    have Hs2 := Lib.hid (hs1.trans hb)
    have Hsz := Lib.hid (Since.below hs1).size
    obtain ⟨Bu, du, rfl, _⟩ := id ho.ints
    clear ho hb hs1
    go_wp2
    go_ret2
    exact ⟨tup2 (show _ = fnExactIsAccepted_r0 n s ls by rw [fnExactIsAccepted_r0, Hok.out, Bool.true_and]; first | rfl | (rw [Bool.eq_iff_iff]; simp)) (show true = fnExactIsAccepted_r1 n s ls from Hok.out.symm), Since.after Hb0.out Hs2.out⟩
set_option maxHeartbeats 16000000 in
theorem fnExactIsAccepted_walk (w : World) (ve vi vn : Value) (n : Net) (ni : NetIn w ve vi vn n) (_ : Net64 n) (a1 : Int) (ba1 : -9223372036854775808 ≤ a1 ∧ a1 ≤ 9223372036854775807) (vl2 : Value) (ls2 : List Int) (il2 : IntS w vl2 ls2) (_ : I64s ls2) :
    Calls Try.prog 8 #[.agg #[ve, vi, vn], .int .i64 a1, vl2] w fun e w' => e = .returned (.bool true) ∧ Below w.heap.size w w' := by
  obtain ⟨w0, hw0⟩ : ∃ w0, w0 = (w).alloc (.cells #[ve, vi, vn] 25) := ⟨_, rfl⟩
  have hb0 : Below w.heap.size w w0 := by rw [hw0]; exact ((Below.refl _ _).alloc (by simp) _)
  have H := Lib.hid (ni.keep hb0)
  obtain ⟨h1, h2, h3⟩ := ni.keep hb0
  obtain ⟨A, c, rfl, hlc, hm, hA⟩ := h1
  obtain ⟨A2, c2, rfl, _, hm2, _⟩ := h2
  obtain ⟨A3, c3, rfl, _, hm3, _⟩ := h3
  unfold maxLen at hm hm2 hm3
  have p00 : ∀ W, Since w0 W → W.cell? ⟨w.heap.size, 0, none⟩ = some (.slice A n.ends.length c) := have_cell (by rw [hw0]; simp)
  have p01 : ∀ W, Since w0 W → W.cell? ⟨w.heap.size, 1, none⟩ = some (.slice A2 n.ids.length c2) := have_cell (by rw [hw0]; simp)
  have p02 : ∀ W, Since w0 W → W.cell? ⟨w.heap.size, 2, none⟩ = some (.slice A3 n.inputs.length c3) := have_cell (by rw [hw0]; simp)
  have Hb0 := Lib.hid hb0
  have Hw0 := Lib.hid hw0
  have HA := Lib.hid hA
  clear hA ni
  clear hb0 hw0
  have HL2 := Lib.hid (il2.keep Hb0.out)
  obtain ⟨AL2, cL2, rfl, hlL2, hmL2, _⟩ := il2
  unfold maxLen at hmL2
  obtain ⟨c0, hc0⟩ : ∃ c : Bool, fnExactIsAccepted_r0 n a1 ls2 = c := ⟨_, rfl⟩
  have Hc0 := Lib.hid hc0
  clear hc0
  obtain ⟨c1, hc1⟩ : ∃ c : Bool, fnExactIsAccepted_r1 n a1 ls2 = c := ⟨_, rfl⟩
  have Hc1 := Lib.hid hc1
  clear hc1
  by_cases hbn : ¬ ls2.length ≤ 1048576
  · go_enter Try.func8, Try.ntmps8
    go_wp2_with fail
    rw [← Hw0.out]
    go_ret
    exact ⟨rfl, Hb0.out⟩
  have hbig2 := Decidable.of_not_not hbn
  clear hbn
  go_enter Try.func8, Try.ntmps8
  go_upto_region 1 with (fail)
  rw [← Hw0.out]
  have hs0 : Since w0 w0 := since_refl _
  go_wp2_with fail
  by_cases hszn : ¬ szNet n ≤ 1048576
  · refine (szNetwork_any _ _ _ n _ (by omega) (by omega) _ H.out).mono ?_
    rw [left_bad hszn]
    rintro e W1 ⟨rfl, hb1⟩
    have HS := Lib.hid (Since.after Hb0.out hb1)
    clear hb1 hs0
    go_wp2_with fail
    go_ret
    exact ⟨rfl, HS.out⟩
  have hsz := Decidable.of_not_not hszn
  clear hszn
  obtain ⟨q, hq, hq0⟩ := left_ok hsz
  refine (szNetwork_any _ _ _ n _ (by omega) (by omega) _ H.out).mono ?_
  rw [hq]
  rintro e W1 ⟨rfl, hb1⟩
  have hs1 : Since w0 W1 := hb1
  clear hb1 hs0 hq
  go_wp2_with fail
  refine (toNetwork_any _ _ _ n _ (H.out.keep (hs1).below) hsz).mono ?_
  rintro e W2 ⟨ves, vis, vns, Ss, rfl, hos, hbs⟩
  obtain ⟨Bsa, dsa, rfl, _⟩ := id hos.read.1
  obtain ⟨Bsb, dsb, rfl, _⟩ := id hos.read.2.1
  obtain ⟨Bsc, dsc, rfl, _⟩ := id hos.read.2.2
  have hs2 : Since w0 W2 := (hs1).trans hbs
  have HNs := Lib.hid (show ∀ X, Since W2 X → NetIn X (.slice Bsa n.ends.length dsa) (.slice Bsb n.ids.length dsb) (.slice Bsc n.inputs.length dsc) n from fun X hX => hos.read.keep hX.below)
  clear hos hbs hs1
  go_wp2_with fail
  refine (toIntS_any _ ls2 _ (HL2.out.keep (hs2).below) (by omega)).mono ?_
  rintro e W3 ⟨us2, rfl, hos, hbs⟩
  have hs3 : Since w0 W3 := (hs2).trans hbs
  have HIs2 := Lib.hid (show ∀ X, Since W3 X → IntS X us2 ls2 from fun X hX => hos.ints.keep hX.below)
  obtain ⟨Bs2, ds2, rfl, _⟩ := id hos.ints
  have HNs := Lib.hid (show ∀ X, Since W3 X → NetIn X (.slice Bsa n.ends.length dsa) (.slice Bsb n.ids.length dsb) (.slice Bsc n.inputs.length dsc) n from fun X hX => HNs.out X (Since.after hbs hX))
  clear hos hbs hs2
  go_wp2_with fail
  refine (fnExactIsAccepted_spec _ _ _ n a1 _ ls2 _ (HNs.out _ (since_refl _)) ba1 (HIs2.out _ (since_refl _)) hsz hbig2).mono ?_
  simp only [Hc0.out, Hc1.out]
  rintro e W4 ⟨rfl, hbw⟩
  have hs4 : Since w0 W4 := (hs3).trans hbw
  clear hbw hs3 HNs HIs2
  have Hs4 := Lib.hid hs4
  have g00 := lift_cell p00 hs4
  have g01 := lift_cell p01 hs4
  have g02 := lift_cell p02 hs4
  have HA4 := Lib.hid (show ∀ X, Since W4 X → NetIn X (.slice A n.ends.length c) (.slice A2 n.ids.length c2) (.slice A3 n.inputs.length c3) n from fun X hX => H.out.keep (Hs4.out.after hX).below)
  have HL42 := Lib.hid (show ∀ X, Since W4 X → IntS X (.slice AL2 ls2.length cL2) ls2 from fun X hX => HL2.out.keep (Hs4.out.after hX).below)
  have hz : Since W4 W4 := since_refl _
  clear p00 p01 p02 hs4
  go_wp2_with fail
  refine (toNetwork_any _ _ _ n _ (HA4.out _ hz) hsz).mono ?_
  rintro e W5 ⟨vex, vix, vnx, Sx, rfl, hox, hbx⟩
  obtain ⟨Bxa, dxa, rfl, _⟩ := id hox.read.1
  obtain ⟨Bxb, dxb, rfl, _⟩ := id hox.read.2.1
  obtain ⟨Bxc, dxc, rfl, _⟩ := id hox.read.2.2
  have hy : Since W4 W5 := (hz).trans hbx
  go_wp2_with fail
  obtain ⟨w6, hw6⟩ : ∃ w6, w6 = W5.alloc (.cells #[.slice Bxa n.ends.length dxa, .slice Bxb n.ids.length dxb, .slice Bxc n.inputs.length dxc] 31) := ⟨_, rfl⟩
  rw [← hw6]
  have hs56 : Since W5 w6 := by rw [hw6]; exact since_alloc _ (since_refl _)
  have hz6 : Since W4 w6 := hy.after hs56
  have x0 : ∀ X, Since w6 X → X.cell? ⟨W5.heap.size, 0, none⟩ = some (.slice Bxa n.ends.length dxa) := have_cell (by rw [hw6]; simp)
  have x1 : ∀ X, Since w6 X → X.cell? ⟨W5.heap.size, 1, none⟩ = some (.slice Bxb n.ids.length dxb) := have_cell (by rw [hw6]; simp)
  have x2 : ∀ X, Since w6 X → X.cell? ⟨W5.heap.size, 2, none⟩ = some (.slice Bxc n.inputs.length dxc) := have_cell (by rw [hw6]; simp)
  have HX := Lib.hid (show ∀ X, Since w6 X → OwnNet X W4.heap.size (.slice Bxa n.ends.length dxa) (.slice Bxb n.ids.length dxb) (.slice Bxc n.inputs.length dxc) n Sx from fun X hX => (hox.keep (hs56.after hX).below).mono (Since.below (hz)).size)
  have hsx : ∀ k ∈ Sx, W4.heap.size ≤ k ∧ k < W5.heap.size := fun k hk => ⟨Nat.le_trans (Since.below (hz)).size (hox.range k hk).1, (hox.range k hk).2⟩
  have HSx := Lib.hid hsx
  have hw56 : w6.heap.size = W5.heap.size + 1 := by rw [hw6]; simp
  have Hw56 := Lib.hid hw56
  have Hbase := Lib.hid (Since.below hz6).size
  clear hw6 hs56 hox hbx hy hsx hw56 hz
  have hz := hz6
  clear hz6
  have hx : Since w6 w6 := since_refl _
  skip
  refine (toIntS_any _ ls2 _ (HL42.out _ hz) (by omega)).mono ?_
  rintro e W6 ⟨ux2, rfl, hox, hbx⟩
  have hz6 := hz.trans hbx
  have hx6 := hx.trans hbx
  have HX2 := Lib.hid (show ∀ X, Since W6 X → Own X w6.heap.size ux2 ls2 from fun X hX => (hox.since hX).mono (Since.below hx).size)
  have hsx : ∀ j, ux2.ownBlock = some j → w6.heap.size ≤ j ∧ j < W6.heap.size := fun j hj => ⟨Nat.le_trans (Since.below hx).size (World.ownsRow.lt hox j hj).1, (World.ownsRow.lt hox j hj).2⟩
  have HSx2 := Lib.hid hsx
  obtain ⟨Bx2, dx2, rfl, _⟩ := id hox.ints
  have hi2 : Since W6 W6 := since_refl _
  clear hz hx hsx hox hbx
  have hz := hz6
  have hx := hx6
  clear hz6 hx6
  go_wp2_with fail
  refine (fnExactIsAccepted_impl _ _ _ n a1 _ ls2 _ (HX.out _ hx).read ba1 (HX2.out _ hi2).ints hsz hbig2).mono ?_
  simp only [Hc0.out, Hc1.out]
  rintro e W7 ⟨rfl, hb8⟩
  have hz8 := hz.trans hb8
  have hx8 := hx.trans hb8
  have hi82 := Since.trans hi2 hb8
  clear hz hx hb8 hi2
  have hg8 : Since W7 W7 := since_refl _
  go_upto_region 13 with (fail)
  have r0 := lift_cell x0 hx8
  have r1 := lift_cell x1 hx8
  have r2 := lift_cell x2 hx8
  have q00 := lift_cell g00 hz8
  have q01 := lift_cell g01 hz8
  have q02 := lift_cell g02 hz8
  have Hz8 := Lib.hid hz8
  have Hx8 := Lib.hid hx8
  have Hg8 := Lib.hid hg8
  have Hi82 := Lib.hid hi82
  have HG0 := Lib.hid (And.intro x0 (And.intro x1 (And.intro x2 (And.intro g00 (And.intro g01 g02)))))
  clear x0 x1 x2 g00 g01 g02 hz8 hx8 hg8 hi82
  refine wp_region_one (w0 := W7) 2 rfl (fun W u => ∃ a b c, u = .agg #[a, b, c] ∧ NetIn W a b c n) (fun W W' u h hs => by obtain ⟨a, b, c, rfl, h⟩ := h; exact ⟨a, b, c, rfl, h.keep hs⟩) (by kernel_rfl) (by kernel_rfl) (by kernel_rfl) (by simp) (since_refl _) ?_
  simp only [List.take_succ_cons, List.take_zero, List.drop_succ_cons, List.drop_zero]
  refine pflow_val (v := ?_) rfl ?_ ?_; rotate_left; (intro W hW; go_simp; with_reducible rfl)
  simp only [Act.put, List.setIfInBounds_toArray, List.set_cons_succ, List.set_cons_zero]
  refine pflow_val (v := ?_) rfl ?_ ?_; rotate_left; (intro W hW; go_simp; with_reducible rfl)
  simp only [Act.put, List.setIfInBounds_toArray, List.set_cons_succ, List.set_cons_zero]
  refine ⟨⟨rfl, fun W hW => ?_⟩, fun u => ?_⟩
  · unfold GivesAny
    go_simp
    refine (toNetwork_any _ _ _ n W ((fun W hW => HA4.out W (Hz8.out.after hW)) W hW) hsz).mono ?_
    rintro e W' ⟨a, b, c, S, rfl, ho, hb⟩
    exact ⟨_, rfl, ⟨a, b, c, rfl, ho.read⟩, hb⟩
  simp only [Act.put, List.setIfInBounds_toArray, List.set_cons_succ, List.set_cons_zero]
  refine flow_op (.bool true) rfl (fun W hW => ?_) ?_
  · have hS := hW.1
    have hR := Lib.hid hW.2
    clear hW
    unfold Gives
    go_simp
    obtain ⟨a, b, c, hu, hN⟩ := hR.out
    rw [hu]
    refine (eqNetwork_same _ _ _ _ _ _ n W ((fun W hW => (HX.out W (Hx8.out.after hW)).read) W hS) hN).mono ?_
    rintro e W' ⟨rfl, hb⟩
    exact ⟨rfl, hS.trans hb, a, b, c, rfl, hN.keep hb⟩
  simp only [Act.put, List.setIfInBounds_toArray, List.set_cons_succ, List.set_cons_zero]
  refine flow_val (v := .bool false) rfl (fun W hW => by go_simp) ?_
  simp only [Act.put, List.setIfInBounds_toArray, List.set_cons_succ, List.set_cons_zero]
  intro W9 hW9 _
  clear r0 r1 r2 q00 q01 q02
  obtain ⟨x0, x1, x2, g00, g01, g02⟩ := HG0.out
  have hz8 := Since.after Hz8.out hW9
  have hx8 := Since.after Hx8.out hW9
  have hg8 := Since.after Hg8.out hW9
  have hi82 := Since.after Hi82.out hW9
  clear hW9 HG0 Hz8 Hx8 Hg8 Hi82
  go_wp2_with fail
  refine (toIntS_any _ ls2 _ (HL42.out _ hz8) (by omega)).mono ?_
  rintro e W8 ⟨uc, rfl, hoc, hb9⟩
  have HI := Lib.hid hoc.ints
  obtain ⟨Bc, dc, rfl, _⟩ := id hoc.ints
  have hz8' := Since.trans hz8 hb9
  have hx8' := Since.trans hx8 hb9
  have hg8' := Since.trans hg8 hb9
  have hi82' := Since.trans hi82 hb9
  clear hz8 hx8 hg8 hi82 hb9
  have hz8 := hz8'
  clear hz8'
  have hx8 := hx8'
  clear hx8'
  have hg8 := hg8'
  clear hg8'
  have hi82 := hi82'
  clear hi82'
  clear hoc
  go_wp2_with fail
  refine (eqIntS_same _ _ ls2 _ (HX2.out _ hi82).ints HI.out).mono ?_
  rintro e W9 ⟨rfl, hb9⟩
  have hz8' := Since.trans hz8 hb9
  have hx8' := Since.trans hx8 hb9
  have hg8' := Since.trans hg8 hb9
  have hi82' := Since.trans hi82 hb9
  clear hz8 hx8 hg8 hi82 hb9
  have hz8 := hz8'
  clear hz8'
  have hx8 := hx8'
  clear hx8'
  have hg8 := hg8'
  clear hg8'
  have hi82 := hi82'
  clear hi82'
  clear HI
  go_wp2_with fail
  go_ret
  exact ⟨rfl, Since.after Hb0.out (Hs4.out.after hz8)⟩
end Go.Proofs.Ytaplbmgnfdikdaa
