import Derived.Test.YtbfoefkfcnaimaaSrch4
import Derived.Test.YtbfoefkfcnaimaaRej
namespace Go.Proofs.Ytbfoefkfcnaimaa
open Go.RowKit
theorem srch_none_list (good : List Int → Nat → Bool) (most lim : Int) : ∀ (f : Nat) (ls : List Int) (v : Nat) (made : Int), (srch good most lim f ls v made).2.1 ≠ 1 → (srch good most lim f ls v made).1 = []
  | 0, _, _, _, _ => rfl
  | f + 1, ls, v, made, h => by
    unfold srch at h ⊢
    split at h
    · rename_i h1
      rw [if_pos h1]
      split at h
      · rename_i h2
        rw [if_pos h2]
        split at h
        · rename_i h3
          rw [if_pos h3]
        · rename_i h3
          rw [if_neg h3]
          exact srch_none_list good most lim f _ _ _ h
      · rename_i h2
        rw [if_neg h2]
        split at h
        · rename_i h3
          rw [if_pos h3]
        · rename_i h3
          rw [if_neg h3]
          exact srch_none_list good most lim f _ _ _ h
    · exact absurd rfl h
theorem srch_len (good : List Int → Nat → Bool) (most lim : Int) : ∀ (f : Nat) (ls : List Int) (v : Nat) (made : Int), (srch good most lim f ls v made).1.length ≤ ls.length
  | 0, _, _, _ => Nat.zero_le _
  | f + 1, ls, v, made => by
    unfold srch
    split
    · split
      · split
        · exact Nat.zero_le _
        · have := srch_len good most lim f (ls.set v (-1)) (v - 1) made
          rwa [List.length_set] at this
      · split
        · exact Nat.zero_le _
        · have := srch_len good most lim f (ls.set v (ls.getD v 0 + 1)) (if good (ls.set v (ls.getD v 0 + 1)) v then v + 1 else v) (made + 1)
          rwa [List.length_set] at this
    · exact Nat.le_refl _
set_option maxHeartbeats 1000000 in
theorem found_any (ve vi vn vl : Value) (s m most lim st z : Int) (B : Nat) (w : World) (ha : AS w B ve vi vn s m most lim st vl) :
    Calls Try.prog 82 #[.pointer (some ⟨B, 0, none⟩), .int .i64 z] w fun e w' => e = .returned (if z = 1 then vl else .slice none 0 0) ∧ Below w.heap.size w w' := by
  have c8 := ha.c8
  by_cases hz : z = 1
  · subst hz
    rw [if_pos rfl]
    go_enter Try.func82, Try.ntmps82
    go_wp2
    go_ret
    exact ⟨rfl, Below.refl _ _⟩
  · rw [if_neg hz]
    have hzf : (z == 1) = false := by rw [beq_eq_false_iff_ne]; exact hz
    have hzb : (z != 1) = true := by simpa using hz
    go_enter Try.func82, Try.ntmps82
    go_wp2
    go_ret
    exact ⟨rfl, Below.refl _ _⟩
theorem modAccOn {ve vi vn : Value} {n : Net} {m : Int} {b : Nat} {w0 : World} (h : NetIn w0 ve vi vn n) (hn : netOk n = true) (hm1 : 3 ≤ m) (hm2 : m ≤ 40)
    (c0 : ∀ W, Since w0 W → W.cell? ⟨b, 0, none⟩ = some ve) (c1 : ∀ W, Since w0 W → W.cell? ⟨b, 1, none⟩ = some vi) (c2 : ∀ W, Since w0 W → W.cell? ⟨b, 2, none⟩ = some vn) (c3 : ∀ W, Since w0 W → W.cell? ⟨b + 1, 0, none⟩ = some (.int .i64 m)) :
    AccOn w0 134 b n (m - 1) (accG n 0 m) := by
  intro W vl ls k hW hl hll hk hse
  obtain ⟨n1, n2, n3, n4, n5⟩ := node_at hn hk
  have hlk : ls[k]? = some (ls.getD k 0) := getD_some (by omega)
  have hown := hse (ls.getD k 0) (by simp)
  have hx : ∀ x ∈ nearB ls (n.ends.getD k []), 0 ≤ x ∧ x < m := fun x hx => by have := hse x (List.mem_cons_of_mem _ hx); omega
  have := mod1_any ve vi vn vl n m ls k _ (ls.getD k 0) b (b + 1) W (h.keep hW.below) hl n1 n2 (fun e he => by rw [hll]; exact n3 e he) hx hm1 hm2 hlk hown.1 (by omega) (c0 W hW) (c1 W hW) (c2 W hW) (c3 W hW)
  rw [mod_eq hm1 hown.1 (by omega) hx] at this
  rw [show accG n 0 m ls k = modS m (ls.getD k 0) (nearB ls (n.ends.getD k [])) by simp [accG]]
  exact this
def fnExactForgeModulo_r3 (n : Net) (m steps : Int) : Bool := netOk n && inB 3 40 m && inB 0 200000 steps
def fnExactForgeModulo_r2 (n : Net) (m steps : Int) : Int := if fnExactForgeModulo_r3 n m steps then (srchR n 0 m (m - 1) steps).2.2 else 0
def fnExactForgeModulo_r1 (n : Net) (m steps : Int) : Int := if fnExactForgeModulo_r3 n m steps then (srchR n 0 m (m - 1) steps).2.1 else 0
def fnExactForgeModulo_d (n : Net) (m steps : Int) : List Int := if fnExactForgeModulo_r3 n m steps then (srchR n 0 m (m - 1) steps).1 else []
theorem fnExactForgeModulo_dl (n : Net) (m steps : Int) (hsz : szNet n ≤ 1048576) : (fnExactForgeModulo_d n m steps).length ≤ 4611686018427387904 := by
  unfold fnExactForgeModulo_d
  split
  · have := srch_len (goodG n (accG n 0 m)) (m - 1) steps (leftM steps 0 n.ends.length 0) (List.replicate n.ends.length (-1)) 0 0
    unfold srchR
    unfold szNet szEE at hsz
    rw [List.length_replicate] at this
    omega
  · simp
theorem tup4 {u : Value} {a b a' b' : Int} {c c' : Bool} (h1 : a = a') (h2 : b = b') (h3 : c = c') : Ending.returned (.tuple #[u, .int .i64 a, .int .i64 b, .bool c]) = .returned (.tuple #[u, .int .i64 a', .int .i64 b', .bool c']) := by rw [h1, h2, h3]
theorem results_tmp4 {fn : Func} {t u v x : Tmp} (h : fn.results = #[.tmp t, .tmp u, .tmp v, .tmp x]) (tmps : Array Value) (P : Program) (w : World) :
    (results fn tmps).run P w = .ok (.tuple #[tmps.getD t undef, tmps.getD u undef, tmps.getD v undef, tmps.getD x undef]) w := by
  simp [results, h]
set_option maxRecDepth 100000 in
set_option maxHeartbeats 8000000 in
theorem fnExactForgeModulo_spec (ve vi vn : Value) (n : Net) (m steps : Int) (w : World) (h : NetIn w ve vi vn n) (_ : -9223372036854775808 ≤ m ∧ m ≤ 9223372036854775807) (_ : -9223372036854775808 ≤ steps ∧ steps ≤ 9223372036854775807) (hsz : szNet n ≤ 1048576) :
    Calls Try.prog 32 #[.agg #[ve, vi, vn], .int .i64 m, .int .i64 steps] w fun e w' => ∃ u, e = .returned (.tuple #[u, .int .i64 (fnExactForgeModulo_r1 n m steps), .int .i64 (fnExactForgeModulo_r2 n m steps), .bool (fnExactForgeModulo_r3 n m steps)]) ∧ Own w' w.heap.size u (fnExactForgeModulo_d n m steps) ∧ Below w.heap.size w w' := by
  obtain ⟨w0, hw0⟩ : ∃ w0, w0 = (w).alloc (.cells #[ve, vi, vn] 31) := ⟨_, rfl⟩
  have hb0 : Below w.heap.size w w0 := by rw [hw0]; exact ((Below.refl _ _).alloc (by simp) _)
  have H := Lib.hid (h.keep hb0)
  obtain ⟨h1, h2, h3⟩ := h.keep hb0
  obtain ⟨A, c, rfl, hlc, hm, hA⟩ := h1
  obtain ⟨A2, c2, rfl, _, hm2, _⟩ := h2
  obtain ⟨A3, c3, rfl, _, hm3, _⟩ := h3
  unfold maxLen at hm hm2 hm3
  have p00 : ∀ W, Since w0 W → W.cell? ⟨w.heap.size, 0, none⟩ = some (.slice A n.ends.length c) := have_cell (by rw [hw0]; simp)
  have p01 : ∀ W, Since w0 W → W.cell? ⟨w.heap.size, 1, none⟩ = some (.slice A2 n.ids.length c2) := have_cell (by rw [hw0]; simp)
  have p02 : ∀ W, Since w0 W → W.cell? ⟨w.heap.size, 2, none⟩ = some (.slice A3 n.inputs.length c3) := have_cell (by rw [hw0]; simp)
  have Hb0 := Lib.hid hb0
  have Hw0 := Lib.hid hw0
  have HA := Lib.hid hA
  clear hA h
  clear hb0 hw0
  go_enter Try.func32, Try.ntmps32
  go_upto_region 1 with (fail)
  rw [← Hw0.out]
  refine wp_region_flow0 13 (Since w0) (since_refl _) ?_
  simp only [List.take_succ_cons, List.take_zero, List.drop_succ_cons, List.drop_zero]
  refine flow_val (v := ?_) rfl ?_ ?_; rotate_left; (intro W hW; go_simp; with_reducible rfl)
  simp only [Act.put, List.setIfInBounds_toArray, List.set_cons_succ, List.set_cons_zero]
  refine flow_op ?_ rfl ?_ ?_; rotate_left; (intro W hW; unfold Gives; go_simp; (with_reducible refine (neGood_any _ _ _ n W (H.out.keep hW.below)).mono ?_); rintro e W' ⟨rfl, hb3⟩; first | (refine ⟨?_, Since.trans hW hb3⟩; with_reducible rfl) | (subst hb3; refine ⟨?_, hW⟩; with_reducible rfl))
  simp only [Act.put, List.setIfInBounds_toArray, List.set_cons_succ, List.set_cons_zero]
  refine flow_val (v := ?_) rfl ?_ ?_; rotate_left; (intro W hW; go_simp; with_reducible rfl)
  simp only [Act.put, List.setIfInBounds_toArray, List.set_cons_succ, List.set_cons_zero]
  refine flow_val (v := ?_) rfl ?_ ?_; rotate_left; (intro W hW; go_simp; with_reducible rfl)
  simp only [Act.put, List.setIfInBounds_toArray, List.set_cons_succ, List.set_cons_zero]
  refine flow_gval (v := ?_) rfl rfl ?_ ?_; rotate_left; (intro hb W hW; go_simp; with_reducible rfl)
  simp only [Act.put, List.setIfInBounds_toArray, List.set_cons_succ, List.set_cons_zero]
  refine flow_gop (v := ?_) rfl rfl ?_ ?_; rotate_left; (intro hb W hW; unfold Gives; go_simp; (with_reducible refine (atNumber_b _ W).mono ?_); rintro e W' ⟨rfl, hb3⟩; first | (refine ⟨?_, Since.trans hW hb3⟩; with_reducible rfl) | (subst hb3; refine ⟨?_, hW⟩; with_reducible rfl))
  simp only [Act.put, List.setIfInBounds_toArray, List.set_cons_succ, List.set_cons_zero]
  refine flow_gval (v := ?_) rfl rfl ?_ ?_; rotate_left; (intro hb W hW; go_simp; with_reducible rfl)
  simp only [Act.put, List.setIfInBounds_toArray, List.set_cons_succ, List.set_cons_zero]
  first | refine flow_or rfl rfl ?_ | (refine flow_val (v := ?_) rfl ?_ ?_; rotate_left; (intro W hW; go_simp; with_reducible rfl))
  simp only [Act.put, List.setIfInBounds_toArray, List.set_cons_succ, List.set_cons_zero]
  refine flow_val (v := ?_) rfl ?_ ?_; rotate_left; (intro W hW; go_simp; with_reducible rfl)
  simp only [Act.put, List.setIfInBounds_toArray, List.set_cons_succ, List.set_cons_zero]
  refine flow_gval (v := ?_) rfl rfl ?_ ?_; rotate_left; (intro hb W hW; go_simp; with_reducible rfl)
  simp only [Act.put, List.setIfInBounds_toArray, List.set_cons_succ, List.set_cons_zero]
  refine flow_gop (v := ?_) rfl rfl ?_ ?_; rotate_left; (intro hb W hW; unfold Gives; go_simp; (with_reducible refine (l1In_b _ _ _ W).mono ?_); rintro e W' ⟨rfl, hb3⟩; first | (refine ⟨?_, Since.trans hW hb3⟩; with_reducible rfl) | (subst hb3; refine ⟨?_, hW⟩; with_reducible rfl))
  simp only [Act.put, List.setIfInBounds_toArray, List.set_cons_succ, List.set_cons_zero]
  refine flow_gval (v := ?_) rfl rfl ?_ ?_; rotate_left; (intro hb W hW; go_simp; with_reducible rfl)
  simp only [Act.put, List.setIfInBounds_toArray, List.set_cons_succ, List.set_cons_zero]
  first | refine flow_or rfl rfl ?_ | (refine flow_val (v := ?_) rfl ?_ ?_; rotate_left; (intro W hW; go_simp; with_reducible rfl))
  simp only [Act.put, List.setIfInBounds_toArray, List.set_cons_succ, List.set_cons_zero]
  intro W hW
  cases hg : (!netOk n || !inB 3 40 m || !inB 0 200000 steps)
  · simp only [Bool.or_eq_false_iff, Bool.not_eq_false'] at hg
    have hr : fnExactForgeModulo_r3 n m steps = true := by simp [fnExactForgeModulo_r3, hg.1.1, hg.1.2, hg.2]
    have hm := inB_iff.1 hg.1.2
    have hst := inB_iff.1 hg.2
    have hn := hg.1.1
    obtain ⟨R, hR⟩ : ∃ R, R = srchR n 0 m (m - 1) steps := ⟨_, rfl⟩
    have Hr := Lib.hid (show true = fnExactForgeModulo_r3 n m steps from hr.symm)
    have H1 := Lib.hid (show R.2.1 = fnExactForgeModulo_r1 n m steps by unfold fnExactForgeModulo_r1; rw [if_pos hr, hR])
    have H2 := Lib.hid (show R.2.2 = fnExactForgeModulo_r2 n m steps by unfold fnExactForgeModulo_r2; rw [if_pos hr, hR])
    have H3 := Lib.hid (show R.1 = fnExactForgeModulo_d n m steps by unfold fnExactForgeModulo_d; rw [if_pos hr, hR])
    have Hno : Hid (R.2.1 ≠ 1 → R.1 = []) := by rw [hR]; exact srch_none_list _ _ _ _ _ _ _
    have HR := Lib.hid hR
    have Hn := Lib.hid hn
    have m1 : IntKind.i64.wrap (m - 1) = m - 1 := wr64 _ (by omega) (by omega)
    obtain ⟨w2, hw2⟩ : ∃ w2, w2 = W.alloc (.cells #[.slice A n.ends.length c, .slice A2 n.ids.length c2, .slice A3 n.inputs.length c3, .int .i64 0, .int .i64 m, .int .i64 (m - 1), .int .i64 steps, .int .i64 0, .slice none 0 0] 85) := ⟨_, rfl⟩
    obtain ⟨B, hB⟩ : ∃ B, B = W.heap.size := ⟨_, rfl⟩
    have HA : Hid (AS w2 B (.slice A n.ends.length c) (.slice A2 n.ids.length c2) (.slice A3 n.inputs.length c3) 0 m (m - 1) steps 0 (.slice none 0 0)) := by
      show (_ : Option _) = _
      rw [hw2, hB]
      show (W.heap.push _)[W.heap.size]? = _
      rw [Array.getElem?_push_size]
    have Hs2 : Hid (Since w0 w2) := by rw [hw2]; exact since_alloc _ hW
    have HBw : Hid (w0.heap.size ≤ B) := by rw [hB]; exact (Since.below hW).size
    have Hw2 := Lib.hid hw2
    have HB := Lib.hid hB
    clear hg hr hn hR hw2 hB
    go_upto_region 4 with (fail)
    rw [← Hw2.out, ← HB.out]
    clear hW
    go_wp2_with fail
    refine (sRun_any _ _ _ _ n 0 m (m - 1) steps B w2 w0 H.out Hs2.out HBw.out HA.out Hn.out (.inl ⟨rfl, hm.1, hm.2, rfl⟩) hst.1 (by omega)).mono ?_
    rw [← HR.out]
    rintro e w3 ⟨rfl, hs3, vl', ha3, hown⟩
    have HA3 := Lib.hid ha3
    have Hown := Lib.hid hown
    have Hs3 := Lib.hid hs3
    have c7 := have_cell ha3.c7
    obtain ⟨uf, huf⟩ : ∃ u, u = (if R.2.1 = 1 then vl' else .slice none 0 0) := ⟨_, rfl⟩
    have Hfd : Hid (∀ W, Since w3 W → Calls Try.prog 82 #[.pointer (some ⟨B, 0, none⟩), .int .i64 R.2.1] W fun e w' => e = .returned uf ∧ Below W.heap.size W w') := fun W hW => by rw [huf]; exact found_any _ _ _ _ _ _ _ _ _ R.2.1 B W (HA3.out.since hW)
    have Huf := Lib.hid huf
    clear hs3 ha3 hown huf
    go_upto_region 5 with (fail)
    refine wp_region_flow 12 (Since w3) (by kernel_rfl) (by kernel_rfl) (by simp) (since_drew (since_refl _)) ?_
    simp only [List.take_succ_cons, List.take_zero, List.drop_succ_cons, List.drop_zero]
    refine flow_val (v := ?_) rfl ?_ ?_; rotate_left; (intro W hW; go_simp; with_reducible rfl)
    simp only [Act.put, List.setIfInBounds_toArray, List.set_cons_succ, List.set_cons_zero]
    refine flow_val (v := ?_) rfl ?_ ?_; rotate_left; (intro W hW; go_simp; with_reducible rfl)
    simp only [Act.put, List.setIfInBounds_toArray, List.set_cons_succ, List.set_cons_zero]
    refine flow_op ?_ rfl ?_ ?_; rotate_left; (intro W hW; unfold Gives; go_simp; (with_reducible refine (Hfd.out W hW).mono ?_); rintro e W' ⟨rfl, hb3⟩; first | (refine ⟨?_, Since.trans hW hb3⟩; with_reducible rfl) | (subst hb3; refine ⟨?_, hW⟩; with_reducible rfl))
    simp only [Act.put, List.setIfInBounds_toArray, List.set_cons_succ, List.set_cons_zero]
    refine flow_val (v := ?_) rfl ?_ ?_; rotate_left; (intro W hW; go_simp; with_reducible rfl)
    simp only [Act.put, List.setIfInBounds_toArray, List.set_cons_succ, List.set_cons_zero]
    refine flow_val (v := ?_) rfl ?_ ?_; rotate_left; (intro W hW; go_simp; with_reducible rfl)
    simp only [Act.put, List.setIfInBounds_toArray, List.set_cons_succ, List.set_cons_zero]
    refine flow_val (v := ?_) rfl ?_ ?_; rotate_left; (intro W hW; go_simp; with_reducible rfl)
    simp only [Act.put, List.setIfInBounds_toArray, List.set_cons_succ, List.set_cons_zero]
    refine flow_val (v := ?_) rfl ?_ ?_; rotate_left; (intro W hW; go_simp; with_reducible rfl)
    simp only [Act.put, List.setIfInBounds_toArray, List.set_cons_succ, List.set_cons_zero]
    refine flow_val (v := ?_) rfl ?_ ?_; rotate_left; (intro W hW; go_simp; with_reducible rfl)
    simp only [Act.put, List.setIfInBounds_toArray, List.set_cons_succ, List.set_cons_zero]
    refine flow_val (v := ?_) rfl ?_ ?_; rotate_left; (intro W hW; go_simp; with_reducible rfl)
    simp only [Act.put, List.setIfInBounds_toArray, List.set_cons_succ, List.set_cons_zero]
    refine flow_val (v := ?_) rfl ?_ ?_; rotate_left; (intro W hW; go_simp; with_reducible rfl)
    simp only [Act.put, List.setIfInBounds_toArray, List.set_cons_succ, List.set_cons_zero]
    refine flow_val (v := ?_) rfl ?_ ?_; rotate_left; (intro W hW; go_simp; with_reducible rfl)
    simp only [Act.put, List.setIfInBounds_toArray, List.set_cons_succ, List.set_cons_zero]
    refine flow_val (v := ?_) rfl ?_ ?_; rotate_left; (intro W hW; go_simp; with_reducible rfl)
    simp only [Act.put, List.setIfInBounds_toArray, List.set_cons_succ, List.set_cons_zero]
    intro W4 hW4
    have HW4 := Lib.hid hW4
    clear c7 hW4
    go_wp2
    refine bodyPost_ret (results_tmp4 rfl _ _ _) rfl ?_
    refine ⟨_, tup4 H1.out H2.out Hr.out, ?_, Since.after Hb0.out (Hs3.out.after HW4.out)⟩
    rw [← H3.out]
    show Own _ _ uf _
    rw [Huf.out]
    by_cases h1 : R.2.1 = 1
    · rw [if_pos h1]; exact ((Hown.out h1).since HW4.out).mono Hb0.out.size
    · rw [if_neg h1, Hno.out h1]; exact own_nil _ _
  · have hr : fnExactForgeModulo_r3 n m steps = false := by
      unfold fnExactForgeModulo_r3
      revert hg
      cases netOk n <;> cases inB 3 40 m <;> cases inB 0 200000 steps <;> simp
    have Hr := Lib.hid (show false = fnExactForgeModulo_r3 n m steps from hr.symm)
    have H1 := Lib.hid (show 0 = fnExactForgeModulo_r1 n m steps by unfold fnExactForgeModulo_r1; rw [if_neg (by rw [hr]; simp)])
    have H2 := Lib.hid (show 0 = fnExactForgeModulo_r2 n m steps by unfold fnExactForgeModulo_r2; rw [if_neg (by rw [hr]; simp)])
    have H3 := Lib.hid (show [] = fnExactForgeModulo_d n m steps by unfold fnExactForgeModulo_d; rw [if_neg (by rw [hr]; simp)])
    have HW := Lib.hid hW
    clear hg hr hW
    go_wp2
    refine bodyPost_ret (results_tmp4 rfl _ _ _) rfl ?_
    exact ⟨_, tup4 H1.out H2.out Hr.out, by rw [← H3.out]; exact own_nil _ _, Since.after Hb0.out HW.out⟩
end Go.Proofs.Ytbfoefkfcnaimaa
namespace Go.Proofs.Ytbfoefkfcnaimaa
open Go.RowKit
set_option maxRecDepth 100000 in
set_option maxHeartbeats 8000000 in
theorem fnExactForgeModulo_impl (ve vi vn : Value) (n : Net) (m steps : Int) (w : World) (h : NetIn w ve vi vn n) (_ : -9223372036854775808 ≤ m ∧ m ≤ 9223372036854775807) (_ : -9223372036854775808 ≤ steps ∧ steps ≤ 9223372036854775807) (hsz : szNet n ≤ 1048576) :
    Calls Try.prog 33 #[.agg #[ve, vi, vn], .int .i64 m, .int .i64 steps] w fun e w' => ∃ u, e = .returned (.tuple #[u, .int .i64 (fnExactForgeModulo_r1 n m steps), .int .i64 (fnExactForgeModulo_r2 n m steps), .bool (fnExactForgeModulo_r3 n m steps)]) ∧ Own w' w.heap.size u (fnExactForgeModulo_d n m steps) ∧ Below w.heap.size w w' := by
  obtain ⟨w0, hw0⟩ : ∃ w0, w0 = (w).alloc (.cells #[ve, vi, vn] 31) := ⟨_, rfl⟩
  have hb0 : Below w.heap.size w w0 := by rw [hw0]; exact ((Below.refl _ _).alloc (by simp) _)
  have H := Lib.hid (h.keep hb0)
  obtain ⟨h1, h2, h3⟩ := h.keep hb0
  obtain ⟨A, c, rfl, hlc, hm, hA⟩ := h1
  obtain ⟨A2, c2, rfl, _, hm2, _⟩ := h2
  obtain ⟨A3, c3, rfl, _, hm3, _⟩ := h3
  unfold maxLen at hm hm2 hm3
  have p00 : ∀ W, Since w0 W → W.cell? ⟨w.heap.size, 0, none⟩ = some (.slice A n.ends.length c) := have_cell (by rw [hw0]; simp)
  have p01 : ∀ W, Since w0 W → W.cell? ⟨w.heap.size, 1, none⟩ = some (.slice A2 n.ids.length c2) := have_cell (by rw [hw0]; simp)
  have p02 : ∀ W, Since w0 W → W.cell? ⟨w.heap.size, 2, none⟩ = some (.slice A3 n.inputs.length c3) := have_cell (by rw [hw0]; simp)
  have Hb0 := Lib.hid hb0
  have Hw0 := Lib.hid hw0
  have HA := Lib.hid hA
  clear hA h
  clear hb0 hw0
  go_enter Try.func33, Try.ntmps33
  go_upto_region 1 with (fail)
  rw [← Hw0.out]
  refine wp_region_flow0 13 (Since w0) (since_refl _) ?_
  simp only [List.take_succ_cons, List.take_zero, List.drop_succ_cons, List.drop_zero]
  refine flow_val (v := ?_) rfl ?_ ?_; rotate_left; (intro W hW; go_simp; with_reducible rfl)
  simp only [Act.put, List.setIfInBounds_toArray, List.set_cons_succ, List.set_cons_zero]
  refine flow_op ?_ rfl ?_ ?_; rotate_left; (intro W hW; unfold Gives; go_simp; (with_reducible refine (isNetwork_any _ _ _ n W (H.out.keep hW.below) (szNet_ids hsz)).mono ?_); rintro e W' ⟨rfl, hb3⟩; first | (refine ⟨?_, Since.trans hW hb3⟩; with_reducible rfl) | (subst hb3; refine ⟨?_, hW⟩; with_reducible rfl))
  simp only [Act.put, List.setIfInBounds_toArray, List.set_cons_succ, List.set_cons_zero]
  refine flow_val (v := ?_) rfl ?_ ?_; rotate_left; (intro W hW; go_simp; with_reducible rfl)
  simp only [Act.put, List.setIfInBounds_toArray, List.set_cons_succ, List.set_cons_zero]
  refine flow_val (v := ?_) rfl ?_ ?_; rotate_left; (intro W hW; go_simp; with_reducible rfl)
  simp only [Act.put, List.setIfInBounds_toArray, List.set_cons_succ, List.set_cons_zero]
  refine flow_gval (v := ?_) rfl rfl ?_ ?_; rotate_left; (intro hb W hW; go_simp; with_reducible rfl)
  simp only [Act.put, List.setIfInBounds_toArray, List.set_cons_succ, List.set_cons_zero]
  refine flow_gop (v := ?_) rfl rfl ?_ ?_; rotate_left; (intro hb W hW; unfold Gives; go_simp; (with_reducible refine (within_b _ _ _ W).mono ?_); rintro e W' ⟨rfl, hb3⟩; first | (refine ⟨?_, Since.trans hW hb3⟩; with_reducible rfl) | (subst hb3; refine ⟨?_, hW⟩; with_reducible rfl))
  simp only [Act.put, List.setIfInBounds_toArray, List.set_cons_succ, List.set_cons_zero]
  refine flow_gval (v := ?_) rfl rfl ?_ ?_; rotate_left; (intro hb W hW; go_simp; with_reducible rfl)
  simp only [Act.put, List.setIfInBounds_toArray, List.set_cons_succ, List.set_cons_zero]
  first | refine flow_or rfl rfl ?_ | (refine flow_val (v := ?_) rfl ?_ ?_; rotate_left; (intro W hW; go_simp; with_reducible rfl))
  simp only [Act.put, List.setIfInBounds_toArray, List.set_cons_succ, List.set_cons_zero]
  refine flow_val (v := ?_) rfl ?_ ?_; rotate_left; (intro W hW; go_simp; with_reducible rfl)
  simp only [Act.put, List.setIfInBounds_toArray, List.set_cons_succ, List.set_cons_zero]
  refine flow_gval (v := ?_) rfl rfl ?_ ?_; rotate_left; (intro hb W hW; go_simp; with_reducible rfl)
  simp only [Act.put, List.setIfInBounds_toArray, List.set_cons_succ, List.set_cons_zero]
  refine flow_gop (v := ?_) rfl rfl ?_ ?_; rotate_left; (intro hb W hW; unfold Gives; go_simp; (with_reducible refine (within_b _ _ _ W).mono ?_); rintro e W' ⟨rfl, hb3⟩; first | (refine ⟨?_, Since.trans hW hb3⟩; with_reducible rfl) | (subst hb3; refine ⟨?_, hW⟩; with_reducible rfl))
  simp only [Act.put, List.setIfInBounds_toArray, List.set_cons_succ, List.set_cons_zero]
  refine flow_gval (v := ?_) rfl rfl ?_ ?_; rotate_left; (intro hb W hW; go_simp; with_reducible rfl)
  simp only [Act.put, List.setIfInBounds_toArray, List.set_cons_succ, List.set_cons_zero]
  first | refine flow_or rfl rfl ?_ | (refine flow_val (v := ?_) rfl ?_ ?_; rotate_left; (intro W hW; go_simp; with_reducible rfl))
  simp only [Act.put, List.setIfInBounds_toArray, List.set_cons_succ, List.set_cons_zero]
  intro Wa hWa
  cases hg : (!netOk n || !inB 3 40 m || !inB 0 200000 steps)
  · simp only [Bool.or_eq_false_iff, Bool.not_eq_false'] at hg
    have hr : fnExactForgeModulo_r3 n m steps = true := by simp [fnExactForgeModulo_r3, hg.1.1, hg.1.2, hg.2]
    have hm := inB_iff.1 hg.1.2
    have hst := inB_iff.1 hg.2
    have hn := hg.1.1
    obtain ⟨R, hR⟩ : ∃ R, R = srchA n (accG n 0 m) (m - 1) steps := ⟨_, rfl⟩
    have Hr := Lib.hid (show true = fnExactForgeModulo_r3 n m steps from hr.symm)
    have H1 := Lib.hid (show R.2.1 = fnExactForgeModulo_r1 n m steps by unfold fnExactForgeModulo_r1; rw [if_pos hr, hR]; rfl)
    have H2 := Lib.hid (show R.2.2 = fnExactForgeModulo_r2 n m steps by unfold fnExactForgeModulo_r2; rw [if_pos hr, hR]; rfl)
    have H3 := Lib.hid (show R.1 = fnExactForgeModulo_d n m steps by unfold fnExactForgeModulo_d; rw [if_pos hr, hR]; rfl)
    have HR := Lib.hid hR
    have Hn := Lib.hid hn
    have m1 : IntKind.i64.wrap (m - 1) = m - 1 := wr64 _ (by omega) (by omega)
    have q0 := lift_cell p00 hWa
    have q1 := lift_cell p01 hWa
    have q2 := lift_cell p02 hWa
    have Hs := Lib.hid hWa
    clear hg hr hn hR hWa
    go_upto_region 3 with (fail)
    refine wp_region_chain (w0 := Wa) 5 [false, false, false, true, true] (by kernel_rfl) (by kernel_rfl) (since_refl _) ?_
    simp only [selF, selT, List.take_succ_cons, List.take_zero, List.drop_succ_cons, List.drop_zero]
    refine pflow_val (v := ?_) rfl ?_ ?_; rotate_left; (intro W hW; go_simp; with_reducible rfl)
    simp only [Act.put, List.setIfInBounds_toArray, List.set_cons_succ, List.set_cons_zero]
    refine pflow_val (v := ?_) rfl ?_ ?_; rotate_left; (intro W hW; go_simp; with_reducible rfl)
    simp only [Act.put, List.setIfInBounds_toArray, List.set_cons_succ, List.set_cons_zero]
    refine pflow_val (v := ?_) rfl ?_ ?_; rotate_left; (intro W hW; go_simp; with_reducible rfl)
    simp only [Act.put, List.setIfInBounds_toArray, List.set_cons_succ, List.set_cons_zero]
    intro W hW
    refine Or.inl ⟨rfl, ?_⟩
    go_simp
    (with_reducible refine (moduloVerifier_any _ _ _ n m W (H.out.keep (Hs.out.after hW).below)).mono ?_)
    rintro e W' ⟨rfl, hw⟩
    refine ⟨_, rfl, (show Since Wa W' from Since.after hW (by rw [hw]; exact since_alloc _ (since_alloc _ (since_refl _)))), ?_⟩
    replace hW := (show Since Wa W' from Since.after hW (by rw [hw]; exact since_alloc _ (since_alloc _ (since_refl _))))
    unfold modF
    (try simp only [Act.put, List.setIfInBounds_toArray, List.set_cons_succ, List.set_cons_zero])
    refine tflow_val (v := ?_) rfl ?_ hW ?_; rotate_left; (go_simp; with_reducible rfl)
    simp only [Act.put, List.setIfInBounds_toArray, List.set_cons_succ, List.set_cons_zero]
    simp only [TFlow]
    obtain ⟨b, hb⟩ : ∃ b, b = W.heap.size := ⟨_, rfl⟩
    have s0 := have_cell (show W'.cell? ⟨b, 0, none⟩ = some (.slice A n.ends.length c) by rw [hw, hb]; simp)
    have s1 := have_cell (show W'.cell? ⟨b, 1, none⟩ = some (.slice A2 n.ids.length c2) by rw [hw, hb]; simp)
    have s2 := have_cell (show W'.cell? ⟨b, 2, none⟩ = some (.slice A3 n.inputs.length c3) by rw [hw, hb]; simp)
    have s3 := have_cell (show W'.cell? ⟨b + 1, 0, none⟩ = some (.int .i64 m) by rw [hw, hb]; simp)
    have Hs' := Lib.hid (Hs.out.after hW)
    have Hacc : Hid (AccOn W' 134 b n (m - 1) (accG n 0 m)) := modAccOn (H.out.keep Hs'.out.below) Hn.out hm.1 hm.2 s0 s1 s2 s3
    obtain ⟨B, hB⟩ : ∃ B, B = W'.heap.size := ⟨_, rfl⟩
    obtain ⟨w3, hw3⟩ : ∃ w3, w3 = W'.alloc (.cells #[.slice A n.ends.length c, .slice A2 n.ids.length c2, .slice A3 n.inputs.length c3, accV 134 b, .slice none 0 0] 94) := ⟨_, rfl⟩
    have HA : Hid (LS w3 B (.slice A n.ends.length c) (.slice A2 n.ids.length c2) (.slice A3 n.inputs.length c3) (accV 134 b) (.slice none 0 0)) := by
      show (_ : Option _) = _
      rw [hw3, hB]
      show (W'.heap.push _)[W'.heap.size]? = _
      rw [Array.getElem?_push_size]
    have Hs3 : Hid (Since W' w3) := by rw [hw3]; exact since_alloc _ (since_refl _)
    have HBw : Hid (W'.heap.size ≤ B) := by rw [hB]; exact Nat.le_refl _
    have HNW := Lib.hid (H.out.keep Hs'.out.below)
    have Hw3 := Lib.hid hw3
    have HB := Lib.hid hB
    have Hb := Lib.hid hb
    unfold accV at Hw3
    clear q0 q1 q2 s0 s1 s2 s3 hw3 hB hb hw hW
    go_upto_region 4 with (fail)
    rw [← Hb.out, ← Hw3.out, ← HB.out]
    go_wp2_with fail
    refine (lRun_any _ _ _ _ n (m - 1) steps (accG n 0 m) 134 B b w3 W' HNW.out Hs3.out HBw.out HA.out Hn.out (by omega) (by omega) hst.1 (by omega) mod1_enters Hacc.out).mono ?_
    rw [← HR.out]
    rintro e w4 ⟨u4, rfl, ho4, hs4⟩
    have Ho4 := Lib.hid ho4
    have Hs4 := Lib.hid hs4
    clear ho4 hs4
    go_wp2
    refine bodyPost_ret (results_tmp4 rfl _ _ _) rfl ?_
    exact ⟨_, tup4 H1.out H2.out Hr.out, by rw [← H3.out]; exact Ho4.out.mono (Nat.le_trans Hb0.out.size Hs'.out.below.size), Since.after Hb0.out (Hs'.out.after Hs4.out)⟩
  · have hr : fnExactForgeModulo_r3 n m steps = false := by
      unfold fnExactForgeModulo_r3
      revert hg
      cases netOk n <;> cases inB 3 40 m <;> cases inB 0 200000 steps <;> simp
    have Hr := Lib.hid (show false = fnExactForgeModulo_r3 n m steps from hr.symm)
    have H1 := Lib.hid (show 0 = fnExactForgeModulo_r1 n m steps by unfold fnExactForgeModulo_r1; rw [if_neg (by rw [hr]; simp)])
    have H2 := Lib.hid (show 0 = fnExactForgeModulo_r2 n m steps by unfold fnExactForgeModulo_r2; rw [if_neg (by rw [hr]; simp)])
    have H3 := Lib.hid (show [] = fnExactForgeModulo_d n m steps by unfold fnExactForgeModulo_d; rw [if_neg (by rw [hr]; simp)])
    have HW := Lib.hid hWa
    clear hg hr hWa
    go_wp2
    refine bodyPost_ret (results_tmp4 rfl _ _ _) rfl ?_
    exact ⟨_, tup4 H1.out H2.out Hr.out, by rw [← H3.out]; exact own_nil _ _, Since.after Hb0.out HW.out⟩
end Go.Proofs.Ytbfoefkfcnaimaa
