import Derived.Test.YthgbobikbdklhaaAct2
namespace Go.Proofs.Ythgbobikbdklhaa
open Go.RowKit
/-! rows of acts that grow beside each other -/
def Ap (u v : Value) : Prop := ∀ b, u.ownBlock = some b → v.ownBlock ≠ some b
def AA (w : World) (base : Nat) (v : Value) (xs : List Q4) : Prop := ∃ T, OwnA w base v xs T
theorem Ap.nilL (v : Value) : Ap (.slice none 0 0) v := fun b hb => by simp [Value.ownBlock] at hb
theorem Ap.nilR (v : Value) : Ap v (.slice none 0 0) := fun b _ hb => by simp [Value.ownBlock] at hb
theorem Ap.symm {u v : Value} (h : Ap u v) : Ap v u := fun b hb hc => h b hc hb
theorem AA.lt {w : World} {base b : Nat} {v : Value} {xs : List Q4} (h : AA w base v xs) (hb : v.ownBlock = some b) : base ≤ b ∧ b < w.heap.size := by
  obtain ⟨T, h1, h2⟩ := h
  exact World.ownsRow.lt h1 b hb
theorem AA.up {w w' : World} {base : Nat} {v : Value} {xs : List Q4} (h : AA w base v xs) (hs : Since w w') : AA w' base v xs := ownA_up h hs
def Kept (w w' : World) (base : Nat) (v v' : Value) : Prop := ∀ u ys, AA w base u ys → Ap v u → AA w' base u ys ∧ Ap v' u
def Tri (w : World) (base : Nat) (a : Value) (xs : List Q4) (b : Value) (ys : List Q4) (c : Value) (zs : List Q4) : Prop :=
  AA w base a xs ∧ AA w base b ys ∧ AA w base c zs ∧ Ap a b ∧ Ap a c ∧ Ap b c
theorem Tri.up {w w' : World} {base : Nat} {a b c : Value} {xs ys zs : List Q4} (h : Tri w base a xs b ys c zs) (hs : Since w w') : Tri w' base a xs b ys c zs :=
  ⟨h.1.up hs, h.2.1.up hs, h.2.2.1.up hs, h.2.2.2.1, h.2.2.2.2.1, h.2.2.2.2.2⟩
theorem Tri.one {w w' : World} {base : Nat} {a b c a' : Value} {xs ys zs xs' : List Q4} (h : Tri w base a xs b ys c zs) (hn : AA w' base a' xs') (hk : Kept w w' base a a') : Tri w' base a' xs' b ys c zs := by
  obtain ⟨h1, h2, h3, h4, h5, h6⟩ := h
  obtain ⟨k2, k4⟩ := hk _ _ h2 h4
  obtain ⟨k3, k5⟩ := hk _ _ h3 h5
  exact ⟨hn, k2, k3, k4, k5, h6⟩
theorem Tri.two {w w' : World} {base : Nat} {a b c b' : Value} {xs ys zs ys' : List Q4} (h : Tri w base a xs b ys c zs) (hn : AA w' base b' ys') (hk : Kept w w' base b b') : Tri w' base a xs b' ys' c zs := by
  obtain ⟨h1, h2, h3, h4, h5, h6⟩ := h
  obtain ⟨k2, k4⟩ := hk _ _ h1 h4.symm
  obtain ⟨k3, k6⟩ := hk _ _ h3 h6
  exact ⟨k2, hn, k3, k4.symm, h5, k6⟩
theorem Tri.three {w w' : World} {base : Nat} {a b c c' : Value} {xs ys zs zs' : List Q4} (h : Tri w base a xs b ys c zs) (hn : AA w' base c' zs') (hk : Kept w w' base c c') : Tri w' base a xs b ys c' zs' := by
  obtain ⟨h1, h2, h3, h4, h5, h6⟩ := h
  obtain ⟨k2, k5⟩ := hk _ _ h1 h5.symm
  obtain ⟨k3, k6⟩ := hk _ _ h2 h6.symm
  exact ⟨k2, k3, hn, h4, k5.symm, k6.symm⟩
theorem kept_grown {w w' : World} {base g : Nat} {v : Value} {n c : Nat} (q2 : w.grownBy w' v.ownBlock) (q3 : v.ownBlock = some g ∨ g = w.heap.size) : Kept w w' base v (.slice (some ⟨g, 0, none⟩) n c) := by
  intro u ys hu hap
  have hlt := fun b hb => hu.lt (b := b) hb
  obtain ⟨T, h1⟩ := hu
  refine ⟨⟨T, lawA.only h1 (Only.of_grown q2) fun k hk hv => ?_⟩, fun b hb hub => ?_⟩
  · rw [h1.2] at hk
    refine hap k (by simpa using hv) (by simpa using hk)
  · obtain rfl : g = b := by simpa [Value.ownBlock] using hb
    rcases q3 with q3 | q3
    · exact hap g q3 hub
    · have := (hlt g hub).2
      omega
theorem app_actX {w w0 : World} {ops : Array Oper} {rest : List Oper} {o : Oper} {a : Act} {Q : Exit → Act → World → Prop} (hgd : o.guard = none) (s x : Operand)
    (ho : o.op = .call { callee := .builtin .append, args := #[s, x], argTypes := #[42, 42] }) {v : Value} {xs : List Q4} (hs : a.eval s = v) (h : AA w w0.heap.size v xs) (b : Nat) (y : Q4)
    (hx : a.eval x = .slice (some ⟨b, 0, none⟩) 1 1) (hc : w.cell? ⟨b, 0, none⟩ = some (.int .i64 y.1) ∧ w.cell? ⟨b, 1, none⟩ = some (.int .i64 y.2.1) ∧ w.cell? ⟨b, 2, none⟩ = some (.int .i64 y.2.2.1) ∧ w.cell? ⟨b, 3, none⟩ = some (.int .i64 y.2.2.2)) (hl : xs.length + 1 ≤ 1000000) (hsn : Since w0 w)
    (k : ∀ g cap w', AA w' w0.heap.size (.slice (some ⟨g, 0, none⟩) (xs.length + 1) cap) (xs ++ [y]) → Kept w w' w0.heap.size v (.slice (some ⟨g, 0, none⟩) (xs.length + 1) cap) → Since w0 w' → wpList Try.prog ops Q rest (a.put o.dst (.slice (some ⟨g, 0, none⟩) (xs.length + 1) cap)) w') : wpList Try.prog ops Q (o :: rest) a w := by
  obtain ⟨i0, hi, hz0, hz1, hz2⟩ := info_parts act_info
  obtain ⟨T, h⟩ := h
  obtain ⟨hc0, hc1, hc2, hc3⟩ := hc
  refine wpList_append_lies w hgd s x 42 ho w0.heap.size 64 i0 _ 4 32 Try.underlying42 hi hz0 hz1 hz2 rfl (by decide) v xs.length (xs.flatMap encQ) hs h.1 ⟨b, 0, none⟩ 1 1 [.int .i64 y.1, .int .i64 y.2.1, .int .i64 y.2.2.1, .int .i64 y.2.2.2] hx rfl
    (by intro j u hj; match j, hj with | 0, hj => (simp at hj; subst hj; simpa [Addr.add] using hc0) | 1, hj => (simp at hj; subst hj; simpa [Addr.add] using hc1) | 2, hj => (simp at hj; subst hj; simpa [Addr.add] using hc2) | 3, hj => (simp at hj; subst hj; simpa [Addr.add] using hc3) | j + 4, hj => simp at hj) (by simp [Value.oneCell']) (by omega) (by unfold maxLen; omega) (by omega) hsn.below.size w.heap.size rfl ?_
  intro g cap w' q1 q2 q3 q4
  refine k g cap w' ⟨_, ⟨?_, rfl⟩⟩ (kept_grown q2 q3) (Below.grown hsn q2 hsn.below.size (fun q hq => (World.ownsRow.lt h.1 q hq).1))
  simpa [encQ] using q1
theorem app_actsX {w w0 : World} {ops : Array Oper} {rest : List Oper} {o : Oper} {a : Act} {Q : Exit → Act → World → Prop} (hgd : o.guard = none) (s x : Operand)
    (ho : o.op = .call { callee := .builtin .append, args := #[s, x], argTypes := #[42, 42] }) {v : Value} {xs ys : List Q4} (hs : a.eval s = v) (h : AA w w0.heap.size v xs) (b c : Nat) (hy : AA w w0.heap.size (.slice (some ⟨b, 0, none⟩) ys.length c) ys) (hyp : 0 < ys.length)
    (hx : a.eval x = .slice (some ⟨b, 0, none⟩) ys.length c) (hl : xs.length + ys.length ≤ 1000000) (hsn : Since w0 w)
    (k : ∀ g cap w', AA w' w0.heap.size (.slice (some ⟨g, 0, none⟩) (xs.length + ys.length) cap) (xs ++ ys) → Kept w w' w0.heap.size v (.slice (some ⟨g, 0, none⟩) (xs.length + ys.length) cap) → Since w0 w' → wpList Try.prog ops Q rest (a.put o.dst (.slice (some ⟨g, 0, none⟩) (xs.length + ys.length) cap)) w') : wpList Try.prog ops Q (o :: rest) a w := by
  obtain ⟨i0, hi, hz0, hz1, hz2⟩ := info_parts act_info
  obtain ⟨T, h⟩ := h
  obtain ⟨T2, h2⟩ := hy
  refine wpList_append_lies w hgd s x 42 ho w0.heap.size 64 i0 _ 4 32 Try.underlying42 hi hz0 hz1 hz2 rfl (by decide) v xs.length (xs.flatMap encQ) hs h.1 ⟨b, 0, none⟩ ys.length c (ys.flatMap encQ) hx (encQ_len ys)
    (by intro j u hj; rw [show Addr.add ⟨b, 0, none⟩ j = ⟨b, j, none⟩ by simp [Addr.add, eq_comm], h2.1.cellAt (cap := c) _ (by have := lt_of_get hj; rw [encQ_len] at this; omega)]; exact hj) (by intro u hu; obtain ⟨x, _, hx⟩ := List.mem_flatMap.1 hu; simp [encQ] at hx; rcases hx with rfl | rfl | rfl | rfl <;> rfl) (by omega) (by unfold maxLen; omega) (by omega) hsn.below.size w.heap.size rfl ?_
  intro g cap w' q1 q2 q3 q4
  refine k g cap w' ⟨_, ⟨?_, rfl⟩⟩ (kept_grown q2 q3) (Below.grown hsn q2 hsn.below.size (fun q hq => (World.ownsRow.lt h.1 q hq).1))
  rw [List.flatMap_append, List.length_append]
  exact q1
theorem app_zeroA {w : World} {ops : Array Oper} {rest : List Oper} {o : Oper} {a : Act} {Q : Exit → Act → World → Prop} (hgd : o.guard = none) (s x : Operand)
    (ho : o.op = .call { callee := .builtin .append, args := #[s, x], argTypes := #[42, 42] }) {base : Nat} {v : Value} {xs : List Q4} (hs : a.eval s = v) (h : AA w base v xs) (A : Option Addr) (c : Nat) (hx : a.eval x = .slice A 0 c)
    (k : wpList Try.prog ops Q rest (a.put o.dst v) w) : wpList Try.prog ops Q (o :: rest) a w := by
  obtain ⟨i0, hi, hz0, hz1, hz2⟩ := info_parts act_info
  obtain ⟨T, h, -⟩ := h
  refine wpList_plain hgd fun K hK => ?_
  have hrun : (Builtin.append_ #[42, 42] o.type #[v, .slice A 0 c]).run Try.prog w = .ok v w := by
    rcases h.2 with ⟨rfl, hx0⟩ | ⟨g, cap, cur, rfl, _, _, hnc, _⟩
    · cases A <;> simp [Builtin.append_, run_underlying Try.underlying42, sizeOf, typeInfo, hi, Builtin.lenOf, Builtin.firstCells, loadCells, loadCellsFrom, Result.andThen]
    · cases A <;> simp [Builtin.append_, run_underlying Try.underlying42, sizeOf, typeInfo, hi, Builtin.lenOf, Builtin.firstCells, hnc, storeCells, loadCells, loadCellsFrom, Result.andThen]
  unfold Oper.wp
  simp [execOp, ho, resolve, invoke, builtin, hs, hx, hrun, Result.andThen]
  exact hK _ _ k
/-- append of a row, empty or not -/
theorem app_actsE {w w0 : World} {ops : Array Oper} {rest : List Oper} {o : Oper} {a : Act} {Q : Exit → Act → World → Prop} (hgd : o.guard = none) (s x : Operand)
    (ho : o.op = .call { callee := .builtin .append, args := #[s, x], argTypes := #[42, 42] }) {v u : Value} {xs ys : List Q4} (hs : a.eval s = v) (h : AA w w0.heap.size v xs) (hy : AA w w0.heap.size u ys)
    (hx : a.eval x = u) (hl : xs.length + ys.length ≤ 1000000) (hsn : Since w0 w)
    (k : ∀ v' w', AA w' w0.heap.size v' (xs ++ ys) → Kept w w' w0.heap.size v v' → Since w0 w' → wpList Try.prog ops Q rest (a.put o.dst v') w') : wpList Try.prog ops Q (o :: rest) a w := by
  rcases Nat.eq_zero_or_pos ys.length with h0 | h0
  · have hys : ys = [] := List.eq_nil_of_length_eq_zero h0
    subst hys
    obtain ⟨A, c, hu⟩ : ∃ A c, u = .slice A 0 c := by
      obtain ⟨T, hT, -⟩ := hy
      rcases ownsRow_cases hT with ⟨rfl, _⟩ | ⟨g, c, rfl, _⟩
      · exact ⟨none, 0, rfl⟩
      · exact ⟨_, c, rfl⟩
    exact app_zeroA hgd s x ho hs h A c (hx.trans hu) (k v w (by simpa using h) (fun u' ys' hu' hap => ⟨hu', hap⟩) hsn)
  · obtain ⟨b, c, hu⟩ : ∃ b c, u = .slice (some ⟨b, 0, none⟩) ys.length c := by
      obtain ⟨T, hT, -⟩ := hy
      rcases ownsRow_cases hT with ⟨rfl, hl0⟩ | ⟨g, c, rfl, _⟩
      · omega
      · exact ⟨g, c, rfl⟩
    subst hu
    exact app_actsX hgd s x ho hs h b c hy h0 hx hl hsn (fun g cap w' q1 q2 q3 => k _ w' q1 q2 q3)
theorem aa_nil0 (w : World) (base : Nat) : AA w base (.slice none 0 0) [] := ownA_nil0 w base
set_option maxRecDepth 100000 in
set_option maxHeartbeats 4000000 in
theorem syActs_any (ve vi vn : Value) (n : Net) (w : World) (h : NetIn w ve vi vn n) (hn : netOk n = true) :
    Calls Try.prog 36 #[.agg #[ve, vi, vn]] w fun e w' => ∃ u, e = .returned u ∧ AA w' w.heap.size u (actsB n) ∧ Below w.heap.size w w' := by
  have hn40 := (netOk_len hn).2
  obtain ⟨w0, hw0⟩ : ∃ w0, w0 = (w).alloc (.cells #[ve, vi, vn] 32) := ⟨_, rfl⟩
  have hb0 : Below w.heap.size w w0 := by rw [hw0]; exact ((Below.refl _ _).alloc (by simp) _)
  have H := Lib.hid (h.keep hb0)
  obtain ⟨h1, h2, h3⟩ := h.keep hb0
  obtain ⟨A, c, rfl, hlc, hm, hA⟩ := h1
  obtain ⟨A2, c2, rfl, _, hm2, _⟩ := h2
  obtain ⟨A3, c3, rfl, _, hm3, _⟩ := h3
  unfold maxLen at hm hm2 hm3
  have p00 : ∀ W, Since w0 W → W.cell? ⟨w.heap.size, 0, none⟩ = some (.slice A n.ends.length c) := have_cell (by rw [hw0]; simp)
  have p01 : ∀ W, Since w0 W → W.cell? ⟨w.heap.size, 1, none⟩ = some (.slice A2 n.ids.length c2) := have_cell (by rw [hw0]; simp)
  have p02 : ∀ W, Since w0 W → W.cell? ⟨w.heap.size, 2, none⟩ = some (.slice A3 n.inputs.length c3) := have_cell (by rw [hw0]; simp)
  have Hb0 := Lib.hid hb0
  have Hw0 := Lib.hid hw0
  have HA := Lib.hid hA
  clear hA h
  clear hb0 hw0
  have HPL := Lib.hid (fun c => portsA_len (n := n) c hn)
  have HDE := Lib.hid (degE_le hn)
  clear hn
  have hs0 : Since w0 w0 := since_refl _
  go_enter Try.func36, Try.ntmps36
  go_upto_region 1 with (fail)
  rw [← Hw0.out]
  go_wp2
  clear p00 p01 p02
  go_loopw [3, 4, 5, 12] (fun u1 u2 u3 i wr => ∃ k : Nat, k ≤ n.ends.length ∧ i = .int .i64 k ∧ Tri wr w0.heap.size u1 (portsA n 1 k) u2 (portsA n 2 k) u3 (stepsA k) ∧ Since w0 wr) (fun _ _ _ i _ => n.ends.length - (intOf i).toNat)
  case atStart => exact ⟨0, Nat.zero_le _, rfl, ⟨aa_nil0 _ _, aa_nil0 _ _, aa_nil0 _ _, Ap.nilL _, Ap.nilL _, Ap.nilL _⟩, hs0⟩
  case round =>
    obtain ⟨k, hk, rfl, ho, hsr⟩ := hrel
    have Ho := Lib.hid ho
    clear hs0 ho
    by_cases hlt : k < n.ends.length
    · obtain ⟨es, hes⟩ := getx n.ends k hlt
      obtain ⟨b, offr, cr, ur, hA1, hkr, hc1, hrow⟩ := row_at H.out.es hes
      cases hA1
      obtain ⟨A1, z1, rfl, hz1, hz2, _⟩ := hrow
      unfold maxLen at hz2
      have q5 := have_cell hc1
      have Hle : Hid (degE n k = es.length) := by show _ = _; unfold degE; simp [hes]
      have Hk := Lib.hid (And.intro hk hlt)
      clear hes hc1 hk
      go_wp2
      clear q5
      go_loopw [3, 4, 19] (fun u1 u2 i wr => ∃ j : Nat, j ≤ es.length ∧ i = .int .i64 j ∧ Tri wr w0.heap.size u1 (portsA n 1 k ++ rowA 1 k j) u2 (portsA n 2 k ++ rowA 2 k j) u5 (stepsA k) ∧ Since w0 wr) (fun _ _ i _ => es.length - (intOf i).toNat)
      case atStart => exact ⟨0, Nat.zero_le _, rfl, by simpa [rowA] using Ho.out, hsr⟩
      case round =>
        obtain ⟨j, hj, rfl, ho, hsr3⟩ := hrel
        have Ho3 := Lib.hid ho
        clear hsr ho
        by_cases hlt3 : j < es.length
        · obtain ⟨L1, hL1⟩ : ∃ L, L = portsA n 1 k ++ rowA 1 k j := ⟨_, rfl⟩
          obtain ⟨L2, hL2⟩ : ∃ L, L = portsA n 2 k ++ rowA 2 k j := ⟨_, rfl⟩
          rw [← hL1, ← hL2] at Ho3
          have hl1 : L1.length + 1 ≤ 1000000 := by
            rw [hL1, List.length_append, rowA_len]
            have h2 := HPL.out 1 k
            have h3 := Hk.out
            have h4 := HDE.out k
            have h5 := Hle.out
            omega
          have hl2 : L2.length + 1 ≤ 1000000 := by
            rw [hL2, List.length_append, rowA_len]
            have h2 := HPL.out 2 k
            have h3 := Hk.out
            have h4 := HDE.out k
            have h5 := Hle.out
            omega
          have Hn1 : Hid (portsA n 1 k ++ rowA 1 k (j + 1) = L1 ++ [((1 : Int), (k : Int), (j : Int), 0)]) := by show _ = _; rw [rowA_succ, hL1, List.append_assoc]; rfl
          have Hn2 : Hid (portsA n 2 k ++ rowA 2 k (j + 1) = L2 ++ [((2 : Int), (k : Int), (j : Int), 0)]) := by show _ = _; rw [rowA_succ, hL2, List.append_assoc]; rfl
          clear hL1 hL2
          obtain ⟨w8, hw8⟩ : ∃ w8, w8 = wr.alloc (.cells #[.int .i64 1, .int .i64 k, .int .i64 j, .int .i64 0] 64) := ⟨_, rfl⟩
          have Ho8 : Hid (Tri w8 w0.heap.size u3 L1 u4 L2 u5 (stepsA k)) := by show Tri _ _ _ _ _ _ _ _; rw [hw8]; exact Ho3.out.up (since_alloc _ (since_refl _))
          have Hs8 : Hid (Since w0 w8) := by show Since _ _; rw [hw8]; exact since_alloc _ hsr3
          have Hc8 : Hid (w8.cell? ⟨wr.heap.size, 0, none⟩ = some (.int .i64 1) ∧ w8.cell? ⟨wr.heap.size, 1, none⟩ = some (.int .i64 k) ∧ w8.cell? ⟨wr.heap.size, 2, none⟩ = some (.int .i64 j) ∧ w8.cell? ⟨wr.heap.size, 3, none⟩ = some (.int .i64 0)) := by show _ ∧ _; rw [hw8]; exact ⟨by simp, by simp, by simp, by simp⟩
          go_upto_region 9 with (at_builtin; rw [← hw8]; refine app_actX rfl _ _ rfl rfl Ho8.out.1 wr.heap.size ((1 : Int), (k : Int), (j : Int), 0) rfl Hc8.out hl1 Hs8.out ?_; intro g9 cc9 w9 ho9 hk9 hs9)
          have Ho9 := Lib.hid (Ho8.out.one ho9 hk9)
          have Hs9 := Lib.hid hs9
          clear ho9 hk9 hs9 hw8 hsr3
          obtain ⟨w10, hw10⟩ : ∃ w10, w10 = w9.alloc (.cells #[.int .i64 2, .int .i64 k, .int .i64 j, .int .i64 0] 64) := ⟨_, rfl⟩
          have Ho10 : Hid (Tri w10 w0.heap.size (.slice (some ⟨g9, 0, none⟩) (L1.length + 1) cc9) (L1 ++ [((1 : Int), (k : Int), (j : Int), 0)]) u4 L2 u5 (stepsA k)) := by show Tri _ _ _ _ _ _ _ _; rw [hw10]; exact Ho9.out.up (since_alloc _ (since_refl _))
          have Hs10 : Hid (Since w0 w10) := by show Since _ _; rw [hw10]; exact since_alloc _ Hs9.out
          have Hc10 : Hid (w10.cell? ⟨w9.heap.size, 0, none⟩ = some (.int .i64 2) ∧ w10.cell? ⟨w9.heap.size, 1, none⟩ = some (.int .i64 k) ∧ w10.cell? ⟨w9.heap.size, 2, none⟩ = some (.int .i64 j) ∧ w10.cell? ⟨w9.heap.size, 3, none⟩ = some (.int .i64 0)) := by show _ ∧ _; rw [hw10]; exact ⟨by simp, by simp, by simp, by simp⟩
          clear Hc8 Hs8 Ho8 Ho9
          go_wp2_with (at_builtin; rw [← hw10]; refine app_actX rfl _ _ rfl rfl Ho10.out.2.1 w9.heap.size ((2 : Int), (k : Int), (j : Int), 0) rfl Hc10.out hl2 Hs10.out ?_; intro g11 cc11 w11 ho11 hk11 hs11)
          have Ho11 := Lib.hid (Ho10.out.two ho11 hk11)
          have Hs11 := Lib.hid hs11
          clear ho11 hk11 hs11 hw10
          go_wp2
          go_roundw
          case rel => exact ⟨j + 1, by omega, by go_num, by rw [Hn1.out, Hn2.out]; exact Ho11.out, Hs11.out⟩
          case measure => simp [intOf]; omega
        · obtain rfl : j = es.length := by omega
          have Hn1 : Hid (portsA n 1 (k + 1) = portsA n 1 k ++ rowA 1 k es.length) := by show _ = _; rw [portsA_succ, Hle.out]
          have Hn2 : Hid (portsA n 2 (k + 1) = portsA n 2 k ++ rowA 2 k es.length) := by show _ = _; rw [portsA_succ, Hle.out]
          obtain ⟨L3, hL3⟩ : ∃ L, L = stepsA k := ⟨_, rfl⟩
          rw [← hL3] at Ho3
          have hl3 : L3.length + 1 ≤ 1000000 := by
            rw [hL3, stepsA_len]
            have h1 := Hk.out.2
            omega
          have Hn3 : Hid (stepsA (k + 1) = L3 ++ [((5 : Int), (k : Int), (0 : Int), (0 : Int))]) := by show _ = _; rw [stepsA_succ, hL3]
          clear hlt3 hj hL3
          have hk2 := Hk.out.2
          obtain ⟨w8, hw8⟩ : ∃ w8, w8 = wr.alloc (.cells #[.int .i64 5, .int .i64 k, .int .i64 0, .int .i64 0] 64) := ⟨_, rfl⟩
          have Ho8 : Hid (Tri w8 w0.heap.size u3 (portsA n 1 k ++ rowA 1 k es.length) u4 (portsA n 2 k ++ rowA 2 k es.length) u5 L3) := by show Tri _ _ _ _ _ _ _ _; rw [hw8]; exact Ho3.out.up (since_alloc _ (since_refl _))
          have Hs8 : Hid (Since w0 w8) := by show Since _ _; rw [hw8]; exact since_alloc _ hsr3
          have Hc8 : Hid (w8.cell? ⟨wr.heap.size, 0, none⟩ = some (.int .i64 5) ∧ w8.cell? ⟨wr.heap.size, 1, none⟩ = some (.int .i64 k) ∧ w8.cell? ⟨wr.heap.size, 2, none⟩ = some (.int .i64 0) ∧ w8.cell? ⟨wr.heap.size, 3, none⟩ = some (.int .i64 0)) := by show _ ∧ _; rw [hw8]; exact ⟨by simp, by simp, by simp, by simp⟩
          go_wp2_with (at_builtin; rw [← hw8]; refine app_actX rfl _ _ rfl rfl Ho8.out.2.2.1 wr.heap.size ((5 : Int), (k : Int), (0 : Int), (0 : Int)) rfl Hc8.out hl3 Hs8.out ?_; intro g9 cc9 w9 ho9 hk9 hs9)
          have Ho9 := Lib.hid (Ho8.out.three ho9 hk9)
          have Hs9 := Lib.hid hs9
          clear ho9 hk9 hs9 hw8 hsr3
          go_wp2
          go_roundw
          case rel => exact ⟨k + 1, by omega, by go_num, by rw [Hn1.out, Hn2.out, Hn3.out]; exact Ho9.out, Hs9.out⟩
          case measure => simp [intOf]; omega
    · obtain rfl : k = n.ends.length := by omega
      have hl1 : (portsA n 1 n.ends.length).length + (portsA n 2 n.ends.length).length ≤ 1000000 := by
        have h1 := HPL.out 1 n.ends.length
        have h2 := HPL.out 2 n.ends.length
        omega
      have hl2 : (portsA n 1 n.ends.length ++ portsA n 2 n.ends.length).length + (stepsA n.ends.length).length ≤ 1000000 := by
        rw [List.length_append, stepsA_len]
        have h1 := HPL.out 1 n.ends.length
        have h2 := HPL.out 2 n.ends.length
        omega
      have hor := Ho.out
      clear hlt hk
      go_wp2_with (at_builtin; first | (refine app_actsE rfl _ _ rfl rfl hor.1 hor.2.1 rfl hl1 hsr ?_; intro v8 w8 ho8 hk8 hs8) | (refine app_actsE rfl _ _ rfl rfl ho8 ((hk8 _ _ hor.2.2.1 hor.2.2.2.2.1).1) rfl hl2 hs8 ?_; intro v9 w9 ho9 hk9 hs9))
      have HR : Hid (AA w9 w0.heap.size v9 (actsB n)) := ho9
      have HS := Lib.hid hs9
      clear hor ho9 hk9 hs9 ho8 hk8 hs8 hsr
      go_wp2
      go_ret
      exact ⟨v9, rfl, by obtain ⟨T, hT⟩ := HR.out; exact ⟨T, lawA.mono hT Hb0.out.size⟩, Since.after Hb0.out HS.out⟩
set_option maxRecDepth 100000 in
set_option maxHeartbeats 4000000 in
theorem fnExactRoundActs_spec (ve vi vn : Value) (n : Net) (w : World) (h : NetIn w ve vi vn n) (_ : szNet n ≤ 1048576) :
    Calls Try.prog 18 #[.agg #[ve, vi, vn]] w fun e w' => ∃ u, e = .returned (.tuple #[u, .bool (fnExactRoundActs_r1 n)]) ∧ ActS w' u (fnExactRoundActs_d n) ∧ Below w.heap.size w w' := by
  obtain ⟨w0, hw0⟩ : ∃ w0, w0 = (w).alloc (.cells #[ve, vi, vn] 32) := ⟨_, rfl⟩
  have hb0 : Below w.heap.size w w0 := by rw [hw0]; exact ((Below.refl _ _).alloc (by simp) _)
  have H := Lib.hid (h.keep hb0)
  obtain ⟨h1, h2, h3⟩ := h.keep hb0
  obtain ⟨A, c, rfl, hlc, hm, hA⟩ := h1
  obtain ⟨A2, c2, rfl, _, hm2, _⟩ := h2
  obtain ⟨A3, c3, rfl, _, hm3, _⟩ := h3
  unfold maxLen at hm hm2 hm3
  have p00 : ∀ W, Since w0 W → W.cell? ⟨w.heap.size, 0, none⟩ = some (.slice A n.ends.length c) := have_cell (by rw [hw0]; simp)
  have p01 : ∀ W, Since w0 W → W.cell? ⟨w.heap.size, 1, none⟩ = some (.slice A2 n.ids.length c2) := have_cell (by rw [hw0]; simp)
  have p02 : ∀ W, Since w0 W → W.cell? ⟨w.heap.size, 2, none⟩ = some (.slice A3 n.inputs.length c3) := have_cell (by rw [hw0]; simp)
  have Hb0 := Lib.hid hb0
  have Hw0 := Lib.hid hw0
  have HA := Lib.hid hA
  clear hA h
  clear hb0 hw0
  have hs0 : Since w0 w0 := since_refl _
  go_enter Try.func18, Try.ntmps18
  go_upto_region 1 with (fail)
  rw [← Hw0.out]
  go_wp2_with fail
  refine (neGood_any _ _ _ n _ H.out).mono ?_
  rintro e w1 ⟨rfl, hb1⟩
  have hs1 : Since w0 w1 := hb1
  clear hb1 hs0
  cases hn : netOk n
  · have Hn := Lib.hid hn
    have HS := Lib.hid hs1
    clear hs1 hn
    go_wp2
    go_ret2
    exact ⟨.slice none 0 0, ra_tupF Hn.out _, by
      unfold fnExactRoundActs_d
      rw [if_neg (by rw [Hn.out]; simp)]
      exact OwnA.read (base := 0) (S := []) ⟨World.ownsRow_nil _ _ _ _, rfl⟩, Since.after Hb0.out HS.out⟩
  · have Hn := Lib.hid hn
    clear hn
    go_wp2_with fail
    refine (syActs_any _ _ _ n _ (H.out.keep hs1.below) Hn.out).mono ?_
    rintro e w2 ⟨u, rfl, ho, hb2⟩
    have Ho := Lib.hid ho
    have HS := Lib.hid (hs1.trans hb2)
    clear ho hb2 hs1
    go_wp2
    go_ret2
    obtain ⟨T, hT⟩ := Ho.out
    exact ⟨u, ra_tup Hn.out u, by
      unfold fnExactRoundActs_d
      rw [if_pos Hn.out]
      exact hT.read, Since.after Hb0.out HS.out⟩
end Go.Proofs.Ythgbobikbdklhaa
