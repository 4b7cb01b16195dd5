import Derived.Test.YtbfoefkfcnaimaaVer9
import Derived.Test.YtbfoefkfcnaimaaOwn1
import Derived.Test.YtbfoefkfcnaimaaOdoPlain
import Derived.Test.YtbfoefkfcnaimaaChain
namespace Go.Proofs.Ytbfoefkfcnaimaa
open Go.RowKit
theorem Only.since {S : List Nat} {w0 W W' : World} (h : Since w0 W) (ho : Only S W W') (hs : ∀ k ∈ S, w0.heap.size ≤ k) : Since w0 W' := Below.trans h (ho.below _ h.below.size hs)
theorem own_only {base : Nat} {u : Value} {xs : List Int} {W W' : World} {S : List Nat} (h : Own W base u xs) (ho : Only S W W') (hd : ∀ k ∈ S, u.ownBlock ≠ some k) : Own W' base u xs :=
  ownsRow_stable h fun j hj => ho.block j (World.ownsRow.lt h j (by simpa using hj)).2 fun hs => hd j hs (by simpa using hj)
theorem mul_bd {c m : Int} (hc : 1 ≤ c ∧ c ≤ 20000) (h0 : 0 ≤ m) (h1 : m < 20000) : 0 ≤ c * (m + 1) ∧ c * (m + 1) ≤ 400000000 := by
  have h2 : c * (m + 1) ≤ 20000 * 20000 := Int.mul_le_mul (by omega) (by omega) (by omega) (by omega)
  have h3 : 0 ≤ c * (m + 1) := Int.mul_nonneg (by omega) (by omega)
  omega
/-- f called with the list of number k, in a world of J: one number further -/
def Counts (w0 : World) (fid : FuncId) (caps : Array Value) (B n : Nat) (c : Nat) (J : Nat → Nat → World → Prop) : Prop :=
  ∀ g k W vl, k < c → w0.heap.size ≤ g → J g k W → Own W w0.heap.size vl (listB B n k) → vl.ownBlock = some g → Calls Try.prog fid (#[vl] ++ caps) W fun e W' => ∃ u, e = .returned u ∧ J g (k + 1) W' ∧ (∃ S, Only S W W' ∧ ∀ j ∈ S, j < w0.heap.size)
set_option maxRecDepth 100000 in
set_option maxHeartbeats 8000000 in
theorem eachLabeling_any (ve vi vn : Value) (n : Net) (most : Int) (fid : FuncId) (caps : Array Value) (w : World) (J : Nat → Nat → World → Prop) (h : NetIn w ve vi vn n) (hn1 : 1 ≤ n.ends.length) (hn2 : n.ends.length ≤ 40) (hm0 : 0 ≤ most) (hm1 : most ≤ 9223372036854775807)
    (henter : ∀ args w, (callFunc fid args).run Try.prog w = .ok (.enter fid args) w) (hJ0 : ∀ g W, w.heap.size ≤ g → Below w.heap.size w W → J g 0 W) (hJk : ∀ g k W W', w.heap.size ≤ g → J g k W → Only [g] W W' → J g k W')
    (hf : ∀ c, listsB most n.ends.length = some c → Counts w fid caps (most.toNat + 1) n.ends.length c.toNat J) :
    Calls Try.prog 73 #[.agg #[ve, vi, vn], .int .i64 most, .func (.func fid) #[] caps] w fun e w' => e = .returned (.bool (listsB most n.ends.length).isSome) ∧
      (∀ c, listsB most n.ends.length = some c → ∃ g, w.heap.size ≤ g ∧ J g c.toNat w') ∧ (listsB most n.ends.length = none → Below w.heap.size w w') := by
  obtain ⟨w0, hw0⟩ : ∃ w0, w0 = (w).alloc (.cells #[ve, vi, vn] 31) := ⟨_, rfl⟩
  have hb0 : Below w.heap.size w w0 := by rw [hw0]; exact ((Below.refl _ _).alloc (by simp) _)
  have H := Lib.hid (h.keep hb0)
  obtain ⟨h1, h2, h3⟩ := h.keep hb0
  obtain ⟨A, c, rfl, hlc, hm, hA⟩ := h1
  obtain ⟨A2, c2, rfl, _, hm2, _⟩ := h2
  obtain ⟨A3, c3, rfl, _, hm3, _⟩ := h3
  unfold maxLen at hm hm2 hm3
  have p00 : ∀ W, Since w0 W → W.cell? ⟨w.heap.size, 0, none⟩ = some (.slice A n.ends.length c) := have_cell (by rw [hw0]; simp)
  have p01 : ∀ W, Since w0 W → W.cell? ⟨w.heap.size, 1, none⟩ = some (.slice A2 n.ids.length c2) := have_cell (by rw [hw0]; simp)
  have p02 : ∀ W, Since w0 W → W.cell? ⟨w.heap.size, 2, none⟩ = some (.slice A3 n.inputs.length c3) := have_cell (by rw [hw0]; simp)
  have Hb0 := Lib.hid hb0
  have Hw0 := Lib.hid hw0
  have HA := Lib.hid hA
  clear hA h
  clear hb0 hw0
  have HJ0 := Lib.hid hJ0
  have HJk := Lib.hid hJk
  have Hf := Lib.hid hf
  have eg := henter
  have hs0 : Since w0 w0 := since_refl _
  clear hJ0 hJk hf henter
  obtain ⟨lim, hlim⟩ : ∃ x, listsB most n.ends.length = x := ⟨_, rfl⟩
  have Hlim := Lib.hid hlim
  rw [hlim]
  clear hlim
  go_enter Try.func73, Try.ntmps73
  go_upto_region 1 with (fail)
  rw [← Hw0.out]
  go_wp2
  go_loopw [7, 13] (fun c i wr => ∃ (k : Nat) (cc : Int), k ≤ n.ends.length ∧ i = .int .i64 k ∧ c = .int .i64 cc ∧ listsB most k = some cc ∧ wr = w0) (fun _ i _ => n.ends.length - (intOf i).toNat)
  case atStart => exact ⟨0, 1, Nat.zero_le _, rfl, rfl, rfl, rfl⟩
  case round =>
    obtain ⟨k, cc, hk, rfl, rfl, hcc, hww⟩ := hrel
    obtain rfl := hww.symm
    clear hww
    have hcb := lists_bd hm0 k hcc
    have Hcc := Lib.hid hcc
    clear hcc
    by_cases hlt : k < n.ends.length
    · by_cases hbig : 20000 ≤ most
      · have Hno : Hid (lim = none) := by
          rw [← Hlim.out]
          exact lists_more (i := k + 1) (by rw [listsB, Hcc.out]; simp [hbig]) (by omega)
        have hg : decide (20000 ≤ most) = true := by simpa using hbig
        clear hcb
        go_wp2
        go_ret
        exact ⟨by rw [Hno.out]; rfl, fun c hc => (by rw [Hno.out] at hc; cases hc), fun _ => Hb0.out⟩
      · have hmb := mul_bd ⟨hcb.1, hcb.2.1⟩ hm0 (by omega)
        have hg : decide (20000 ≤ most) = false := by simpa using hbig
        have m1 : IntKind.i64.wrap (most + 1) = most + 1 := wr64 _ (by omega) (by omega)
        have m2 : IntKind.i64.wrap (cc * (most + 1)) = cc * (most + 1) := wr64 _ (by omega) (by omega)
        have Hb := Lib.hid hbig
        generalize hpr : cc * (most + 1) = pr at m2 hmb
        have Hpr := Lib.hid hpr
        clear hcb hbig
        by_cases hp : 20000 < pr
        · have Hno : Hid (lim = none) := by
            rw [← Hlim.out]
            exact lists_more (i := k + 1) (by rw [listsB, Hcc.out]; simp only; rw [Hpr.out, if_pos (.inr hp)]) (by omega)
          go_wp2
          go_ret
          exact ⟨by rw [Hno.out]; rfl, fun c hc => (by rw [Hno.out] at hc; cases hc), fun _ => Hb0.out⟩
        · have Hnx : Hid (listsB most (k + 1) = some pr) := by
            show _ = _
            rw [listsB, Hcc.out]
            simp only
            rw [Hpr.out, if_neg (by have := Hb.out; omega)]
          go_wp2
          go_roundw
          case rel => exact ⟨k + 1, pr, by omega, by go_num, rfl, Hnx.out, (by first | rfl | trivial)⟩
          case measure => simp [intOf]; omega
    · obtain rfl : k = n.ends.length := by omega
      obtain rfl : lim = some cc := by rw [← Hlim.out, Hcc.out]
      have hmost : most < 20000 := hcb.2.2 (by omega)
      obtain ⟨cn, rfl⟩ := Int.eq_ofNat_of_zero_le (show 0 ≤ cc by omega)
      have hcn : cn ≤ 20000 := by omega
      have Hf1 := Lib.hid (Hf.out _ Hlim.out)
      have hB : 0 < most.toNat + 1 := by omega
      have HB := Lib.hid hB
      clear hcb hB
      go_wp2_with (at_make; refine mk_ints _ rfl _ _ rfl _ _ n.ends.length rfl rfl rfl rfl (by omega) ?_; intro w1 ho1 hb1 hz1)
      obtain ⟨g, hg⟩ : ∃ g, g = w0.heap.size := ⟨_, rfl⟩
      rw [← hg] at ho1 hz1 ⊢
      have hgw : Hid (w.heap.size ≤ g) := by rw [hg]; exact Hb0.out.size
      have HJs : Hid (J g 0 w1) := HJ0.out g w1 hgw.out (Hb0.out.trans (hb1.mono Hb0.out.size))
      have hs1 : Since w0 w1 := hb1
      have Ho1 : Hid (Own w1 w.heap.size (.slice (some ⟨g, 0, none⟩) n.ends.length n.ends.length) (listB (most.toNat + 1) n.ends.length 0)) := by
        show Own _ _ _ _
        have e : listB (most.toNat + 1) n.ends.length 0 = List.replicate n.ends.length 0 := by simp [listB, digs_zero, labs]
        rw [e]
        exact ho1.mono hgw.out
      clear ho1 hb1 hz1 hg hs1
      go_wp2
      go_loopw [29] (fun i wr => ∃ k : Nat, k ≤ cn ∧ i = .int .i64 k ∧ J g k wr ∧ Own wr w.heap.size (.slice (some ⟨g, 0, none⟩) n.ends.length n.ends.length) (listB (most.toNat + 1) n.ends.length k)) (fun i _ => cn - (intOf i).toNat)
      case atStart => exact ⟨0, Nat.zero_le _, rfl, HJs.out, Ho1.out⟩
      case round =>
        obtain ⟨k, hk, rfl, hJ, ho⟩ := hrel
        have Ho := Lib.hid ho
        have HJ := Lib.hid hJ
        clear ho hJ
        by_cases hlt : k < cn
        · go_wp2_with fail
          refine (Hf1.out g k _ _ (by omega) hgw.out HJ.out Ho.out rfl).mono ?_
          rintro e W2 ⟨uu, rfl, hJ2, S, hon, hSl⟩
          have HJ2 := Lib.hid hJ2
          have Ho2 := Lib.hid (own_only Ho.out hon (fun j hj e => by have := hSl j hj; simp [Value.ownBlock] at e; have := hgw.out; omega))
          obtain ⟨ds, hds⟩ : ∃ ds, ds = digs (most.toNat + 1) n.ends.length k := ⟨_, rfl⟩
          have Hdl : Hid (ds.length = n.ends.length) := by rw [hds]; exact digs_len _ _ _
          have Hdb : Hid (∀ x ∈ ds, x < most.toNat + 1) := by rw [hds]; exact digs_lt HB.out _ _
          have Hnx : Hid (listB (most.toNat + 1) n.ends.length (k + 1) = labs (bump (most.toNat + 1) ds)) := by rw [hds, bump_digs HB.out]; rfl
          have Ho3 : Hid (Own W2 w.heap.size (.slice (some ⟨g, 0, none⟩) n.ends.length n.ends.length) (labs (half ds 0))) := by rw [half_zero, hds]; exact Ho2.out
          clear hJ2 hon hSl hds
          have m1 : IntKind.i64.wrap ((n.ends.length : Int) - 1) = n.ends.length - 1 := wr64 _ (by omega) (by omega)
          go_wp2
          go_loopw [9] (fun v wr => ∃ i : Nat, i ≤ n.ends.length ∧ v = .int .i64 ((n.ends.length : Int) - 1 - i) ∧ J g (k + 1) wr ∧ Own wr w.heap.size (.slice (some ⟨g, 0, none⟩) n.ends.length n.ends.length) (labs (half ds i)) ∧ (∀ j x, j < i → ds[j]? = some x → ¬ x + 1 < most.toNat + 1)) (fun v _ => ((intOf v) + 1).toNat)
          case atStart => exact ⟨0, Nat.zero_le _, by simp, HJ2.out, Ho3.out, fun j _ hj => by omega⟩
          case round =>
            obtain ⟨i, hi, rfl, hJ, ho, hno⟩ := hrel
            have Hno := Lib.hid hno
            have Ho := Lib.hid ho
            have HJ := Lib.hid hJ
            clear hno hJ ho
            by_cases hil : i < n.ends.length
            · obtain ⟨x, hx⟩ := getx ds i (by rw [Hdl.out]; exact hil)
              have hxb : x < most.toNat + 1 := Hdb.out x (List.mem_of_getElem? hx)
              have hat : (labs (half ds i))[n.ends.length - 1 - i]? = some (x : Int) := by
                have := labs_at (half_at hx)
                rwa [half_len (by rw [Hdl.out]; exact hi), Hdl.out] at this
              have hset : ∀ y : Nat, (labs (half ds i)).set (n.ends.length - 1 - i) (y : Int) = labs ((half ds i).set i y) := fun y => by
                have := labs_set (half ds i) i y (by rw [half_len (by rw [Hdl.out]; exact hi), Hdl.out]; exact hil)
                rwa [half_len (by rw [Hdl.out]; exact hi), Hdl.out] at this
              have Hset := Lib.hid hset
              have Hx := Lib.hid hx
              obtain ⟨p, hp⟩ : ∃ p, p = n.ends.length - 1 - i := ⟨_, rfl⟩
              have ep : (n.ends.length : Int) - 1 - i = (p : Int) := by omega
              rw [ep]
              have cz := Ho.out.cell hat
              have fz := Ho.out.free p
              rw [← hp] at cz
              have hpn : p < n.ends.length := by omega
              have m2 : IntKind.i64.wrap ((x : Int) + 1) = x + 1 := wr64 _ (by omega) (by omega)
              have m3 : IntKind.i64.wrap ((p : Int) - 1) = p - 1 := wr64 _ (by omega) (by omega)
              have Hp := Lib.hid hp
              clear hat hset hx hp ep
              by_cases hst : x + 1 < most.toNat + 1
              · have hle : decide ((x : Int) + 1 ≤ most) = true := by simp; omega
                go_wp2
                go_roundw
                case rel =>
                  refine ⟨k + 1, by omega, by go_num, HJk.out g _ _ _ hgw.out HJ.out ((Only.refl _ _).setCell (.inl (by simp)) _), ?_⟩
                  rw [Hnx.out, ← bump_stop Hno.out Hx.out hst, ← Hset.out, ← Hp.out]
                  have := Ho.out.set (k := p) ((x : Int) + 1)
                  simpa using this
                case measure => simp [intOf]; omega
              · have hle : decide ((x : Int) + 1 ≤ most) = false := by simp; omega
                go_wp2
                go_roundw
                case rel =>
                  refine ⟨i + 1, by omega, ?_, HJk.out g _ _ _ hgw.out (HJk.out g _ _ _ hgw.out HJ.out ((Only.refl _ _).setCell (.inl (by simp)) _)) ((Only.refl _ _).setCell (.inl (by simp)) _), ?_, ?_⟩
                  · have := Hp.out; congr 1 <;> omega
                  · rw [← half_next Hx.out, ← Hset.out 0, ← Hp.out]
                    have := (Ho.out.set (k := p) ((x : Int) + 1)).set (k := p) 0
                    rw [List.set_set] at this
                    simpa using this
                  · intro j y hj hy
                    by_cases e : j = i
                    · subst e; rw [Hx.out] at hy; cases hy; exact hst
                    · exact Hno.out j y (by omega) hy
                case measure => have := Hp.out; simp [intOf] <;> omega
            · obtain rfl : i = n.ends.length := by omega
              have ep : (n.ends.length : Int) - 1 - (n.ends.length : Nat) = -1 := by omega
              rw [ep]
              have Hend : Hid (labs (half ds n.ends.length) = listB (most.toNat + 1) n.ends.length (k + 1)) := by
                rw [Hnx.out, ← Hdl.out, bump_end (by rw [Hdl.out]; exact Hno.out)]
                exact rfl
              go_wp2
              go_roundw
              case rel => exact ⟨k + 1, by omega, by go_num, HJ.out, by rw [← Hend.out]; exact Ho.out⟩
              case measure => simp [intOf]; omega
        · obtain rfl : k = cn := by omega
          go_wp2
          go_ret
          exact ⟨rfl, fun c hc => (by cases hc; exact ⟨g, hgw.out, HJ.out⟩), fun hc => (by cases hc)⟩
end Go.Proofs.Ytbfoefkfcnaimaa
