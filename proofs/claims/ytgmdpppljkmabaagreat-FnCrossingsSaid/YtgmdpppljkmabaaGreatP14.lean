/- Parts of the proof: walks of functions and plain laws. -/
import Derived.Test.YtgmdpppljkmabaaGreatP0
import Derived.Test.YtgmdpppljkmabaaGreatP13
import Derived.Test.YtgmdpppljkmabaaGreatP7
namespace Go.Proofs.YtgmdpppljkmabaaGreat
open Go.RowKit
theorem app_endE {w w0 : World} {ops : Array Oper} {rest : List Oper} {o : Oper} {a : Act} {Q : Exit → Act → World → Prop} (hgd : o.guard = none) (s x : Operand)
  (ho : o.op = .call { callee := .builtin .append, args := #[s, x], argTypes := #[81, 81] }) {v : Value} {xs : List (Int × Int)} (hs : a.eval s = v) (h : ∃ T, OwnE w w0.heap.size v xs T) (b : Nat) (y : Int × Int)
  (hx : a.eval x = .slice (some ⟨b, 0, none⟩) 1 1) (hc : w.cell? ⟨b, 0, none⟩ = some (.int .i64 y.1)) (hc1 : w.cell? ⟨b, 1, none⟩ = some (.int .i64 y.2)) (hl : xs.length + 1 ≤ 1000000) (hsn : Since w0 w)
  (k : ∀ g cap w', (∃ T, OwnE w' w0.heap.size (.slice (some ⟨g, 0, none⟩) (xs.length + 1) cap) (xs ++ [y]) T) → Since w0 w' → wpList Tryz.prog ops Q rest (a.put o.dst (.slice (some ⟨g, 0, none⟩) (xs.length + 1) cap)) w') : wpList Tryz.prog ops Q (o :: rest) a w := by
 obtain ⟨i0, hi, hz0, hz1, hz2⟩ := info_parts end_info
 obtain ⟨T, h⟩ := h
 refine wpList_append_lies w hgd s x 81 ho w0.heap.size 83 i0 _ 2 16 Tryz.underlying81 hi hz0 hz1 hz2 rfl (by decide) v xs.length (xs.flatMap encE) hs h.1 ⟨b, 0, none⟩ 1 1 [.int .i64 y.1, .int .i64 y.2] hx rfl
  (by intro j u hj; match j, hj with | 0, hj => (simp at hj; subst hj; simpa [Addr.add] using hc) | 1, hj => (simp at hj; subst hj; simpa [Addr.add] using hc1) | j + 2, hj => simp at hj) (by simp [Value.oneCell']) (by omega) (by unfold maxLen; omega) (by omega) hsn.below.size w.heap.size rfl ?_
 intro g cap w' q1 q2 q3 q4
 refine k g cap w' ⟨_, ⟨?_, rfl⟩⟩ (Below.grown hsn q2 hsn.below.size (fun q hq => (World.ownsRow.lt h.1 q hq).1))
 simpa [encE] using q1
theorem ownE_nil0 (w : World) (base : Nat) : ∃ T, OwnE w base (.slice none 0 0) [] T := ⟨_, ⟨World.ownsRow_nil w base _ _, rfl⟩⟩
theorem ownE_up {w w' : World} {base : Nat} {v : Value} {xs : List (Int × Int)} (h : ∃ T, OwnE w base v xs T) (hs : Since w w') : ∃ T, OwnE w' base v xs T := by
 obtain ⟨T, h⟩ := h
 exact ⟨T, lawE.keep h hs.below⟩
theorem rowP_take_succ (len : Nat → Nat) (k j : Nat) (hj : j < len k) : (rowP len k).take (j + 1) = (rowP len k).take j ++ [(k, j)] := by
 unfold rowP
 rw [take_snoc]
 simp [hj]
theorem endsOf_app (a b : List (Nat × Nat)) : endsOf (a ++ b) = endsOf a ++ endsOf b := by simp [endsOf]
set_option maxRecDepth 100000 in
set_option maxHeartbeats 8000000 in
theorem fnExactCrossingsOf_impl (ve vi vn : Value) (n : Net) (vl : Value) (ls : List Int) (w : World) (h : NetIn w ve vi vn n) (hl : IntS w vl ls) (hsz : szNet n ≤ 1048576) (hbig : ls.length ≤ 1048576) :
  Calls Tryz.prog 9 #[.agg #[ve, vi, vn], vl] w fun e w' => ∃ u S, e = .returned (.tuple #[u, .bool (fnExactCrossingsOf_r1 n ls)]) ∧ OwnII w' w.heap.size u (fnExactCrossingsOf_d n ls) S ∧ Below w.heap.size w w' := by
 have hil : n.ids.length ≤ 17592186044416 := by unfold szNet at hsz; omega
 have Hil := Lib.hid hil
 clear hil hsz
 have HL0 := Lib.hid hl
 obtain ⟨LA, lc, rfl, _, hlm, _⟩ := hl
 unfold maxLen at hlm
 obtain ⟨w0, hw0⟩ : ∃ w0, w0 = (w).alloc (.cells #[ve, vi, vn] 27) := ⟨_, rfl⟩
 have hb0 : Below w.heap.size w w0 := by rw [hw0]; exact ((Below.refl _ _).alloc (by simp) _)
 have H := Lib.hid (h.keep hb0)
 obtain ⟨h1, h2, h3⟩ := h.keep hb0
 obtain ⟨A, c, rfl, hlc, hm, hA⟩ := h1
 obtain ⟨A2, c2, rfl, _, hm2, _⟩ := h2
 obtain ⟨A3, c3, rfl, _, hm3, _⟩ := h3
 unfold maxLen at hm hm2 hm3
 have p00 : ∀ W, Since w0 W → W.cell? ⟨w.heap.size, 0, none⟩ = some (.slice A n.ends.length c) := have_cell (by rw [hw0]; simp)
 have p01 : ∀ W, Since w0 W → W.cell? ⟨w.heap.size, 1, none⟩ = some (.slice A2 n.ids.length c2) := have_cell (by rw [hw0]; simp)
 have p02 : ∀ W, Since w0 W → W.cell? ⟨w.heap.size, 2, none⟩ = some (.slice A3 n.inputs.length c3) := have_cell (by rw [hw0]; simp)
 have Hb0 := Lib.hid hb0
 have Hw0 := Lib.hid hw0
 have HA := Lib.hid hA
 clear hA h
 clear hb0 hw0
 have HL := Lib.hid (HL0.out.keep Hb0.out)
 go_enter Tryz.func9, Tryz.ntmps9
 go_upto_region 1 with (fail)
 rw [← Hw0.out]
 refine wp_region_flow0 11 (Since w0) (since_refl _) ?_
 simp only [List.take_succ_cons, List.take_zero, List.drop_succ_cons, List.drop_zero]
 refine flow_val (v := ?_) rfl ?_ ?_; rotate_left; (intro W hW; go_simp; with_reducible rfl)
 simp only [zA]
 refine flow_op ?_ rfl ?_ ?_; rotate_left; (intro W hW; unfold Gives; go_simp; (with_reducible refine (isNetwork_any _ _ _ n W (H.out.keep hW.below) Hil.out).mono ?_); rintro e W' ⟨rfl, hb3⟩; first | (refine ⟨?_, Since.trans hW hb3⟩; with_reducible rfl) | (subst hb3; refine ⟨?_, hW⟩; with_reducible rfl))
 simp only [zA]
 refine flow_val (v := ?_) rfl ?_ ?_; rotate_left; (intro W hW; go_simp; with_reducible rfl)
 simp only [zA]
 refine flow_val (v := ?_) rfl ?_ ?_; rotate_left; (intro W hW; go_simp; with_reducible rfl)
 simp only [zA]
 refine flow_gval (v := ?_) rfl rfl ?_ ?_; rotate_left; (intro hb; intro W hW; go_simp; with_reducible rfl)
 simp only [zA]
 refine flow_gval (v := ?_) rfl rfl ?_ ?_; rotate_left; (intro hb; intro W hW; go_simp; with_reducible rfl)
 simp only [zA]
 refine flow_gval (v := ?_) rfl rfl ?_ ?_; rotate_left; (intro hb; intro W hW; go_simp; with_reducible rfl)
 simp only [zA]
 refine flow_gval (v := ?_) rfl rfl ?_ ?_; rotate_left; (intro hb; intro W hW; go_simp; with_reducible rfl)
 simp only [zA]
 refine flow_gval (v := ?_) rfl rfl ?_ ?_; rotate_left; (intro hb; intro W hW; go_simp; with_reducible rfl)
 simp only [zA]
 refine flow_gval (v := ?_) rfl rfl ?_ ?_; rotate_left; (intro hb; intro W hW; go_simp; with_reducible rfl)
 simp only [zA]
 first | refine flow_or rfl rfl ?_ | (refine flow_val (v := ?_) rfl ?_ ?_; rotate_left; (intro W hW; go_simp; with_reducible rfl))
 simp only [zA]
 intro W1 hW1
 cases hg : (!netOk n || ((ls.length : Int) != (n.ends.length : Int)))
 ·obtain ⟨hok, hn, hll⟩ := cx_good hg
  have Hok := Lib.hid hok
  have Hn := Lib.hid hn
  have Hll := Lib.hid hll
  have hn40 := (netOk_len hn).2
  have HPL := Lib.hid (ports_len hn)
  have HLE := Lib.hid (lenE_le hn)
  clear hg hok hn hll
  go_wp2
  go_loopw [6, 29] (fun u i wr => ∃ k : Nat, k ≤ n.ends.length ∧ i = .int .i64 k ∧ (∃ T, OwnE wr w0.heap.size u (endsOf (portsFrom (lenE n) 0 k)) T) ∧ Since w0 wr) (fun _ i _ => n.ends.length - (intOf i).toNat)
  case atStart => exact ⟨0, Nat.zero_le _, rfl, ownE_nil0 _ _, hW1⟩
  case round =>
   obtain ⟨k, hk, rfl, ho, hsr⟩ := hrel
   have Ho := Lib.hid ho
   clear hW1 ho
   by_cases hlt : k < n.ends.length
   ·obtain ⟨es, hes⟩ := getx n.ends k hlt
    obtain ⟨b, offr, cr, ur, hA1, hkr, hc1, hrow⟩ := row_at H.out.es hes
    cases hA1
    obtain ⟨A1, z1, rfl, hz1, hz2, _⟩ := hrow
    unfold maxLen at hz2
    have q5 := have_cell hc1
    have Hle : Hid (lenE n k = es.length) := by show _ = _; unfold lenE; simp [hes]
    have m3 : IntKind.i64.wrap ((k : Int) + 1) = (k : Int) + 1 := wr64 _ (by omega) (by omega)
    have Hk := Lib.hid (And.intro hk hlt)
    clear hes hc1 hk
    go_wp2
    go_loopw [6, 36] (fun u i wr => ∃ j : Nat, j ≤ es.length ∧ i = .int .i64 j ∧ (∃ T, OwnE wr w0.heap.size u (endsOf (portsFrom (lenE n) 0 k ++ (rowP (lenE n) k).take j)) T) ∧ Since w0 wr) (fun _ i _ => es.length - (intOf i).toNat)
    case atStart => exact ⟨0, Nat.zero_le _, rfl, by simpa using Ho.out, hsr⟩
    case round =>
     obtain ⟨j, hj, rfl, ho, hsr2⟩ := hrel
     have Ho2 := Lib.hid ho
     clear hsr ho
     by_cases hlt2 : j < es.length
     ·obtain ⟨P0, hP0⟩ : ∃ P0, P0 = endsOf (portsFrom (lenE n) 0 k ++ (rowP (lenE n) k).take j) := ⟨_, rfl⟩
      rw [← hP0] at Ho2
      have hP0l : P0.length + 1 ≤ 1000000 := by
       rw [hP0, endsOf, List.length_map, List.length_append, List.length_take]
       have h1 := HPL.out k
       have h2 := Hk.out
       have h3 := HLE.out k
       have h4 : ((rowP (lenE n) k).length) ≤ 6 := by rw [rowP, List.length_map, List.length_range]; exact h3
       omega
      have Hnx : Hid (endsOf (portsFrom (lenE n) 0 k ++ (rowP (lenE n) k).take (j + 1)) = P0 ++ [((k : Int), (j : Int))]) := by
       show _ = _
       rw [rowP_take_succ _ _ _ (by rw [Hle.out]; exact hlt2), ← List.append_assoc, endsOf_app, hP0]
       rfl
      have m4 : IntKind.i64.wrap ((j : Int) + 1) = (j : Int) + 1 := wr64 _ (by omega) (by omega)
      clear hP0
      obtain ⟨w8, hw8⟩ : ∃ w8, w8 = wr.alloc (.cells #[.int .i64 k, .int .i64 j] 83) := ⟨_, rfl⟩
      have Ho8 : Hid (∃ T, OwnE w8 w0.heap.size u6 P0 T) := by show ∃ _, _; rw [hw8]; exact ownE_up Ho2.out (since_alloc _ (since_refl _))
      have Hs8 : Hid (Since w0 w8) := by show Since _ _; rw [hw8]; exact since_alloc _ hsr2
      have Hc8 : Hid (w8.cell? ⟨wr.heap.size, 0, none⟩ = some (.int .i64 k) ∧ w8.cell? ⟨wr.heap.size, 1, none⟩ = some (.int .i64 j)) := by show _ ∧ _; rw [hw8]; exact ⟨by simp, by simp⟩
      go_wp2_with (at_builtin; rw [← hw8]; refine app_endE rfl _ _ rfl rfl Ho8.out wr.heap.size ((k : Int), (j : Int)) rfl Hc8.out.1 Hc8.out.2 hP0l Hs8.out ?_; intro g9 cc9 w9 ho9 hs9)
      have Ho9 := Lib.hid ho9
      have Hs9 := Lib.hid hs9
      clear ho9 hs9 hw8 hsr2
      go_wp2
      go_roundw
      case rel => exact ⟨j + 1, by omega, by go_num, by rw [Hnx.out]; exact Ho9.out, Hs9.out⟩
      case measure => simp [intOf]; omega
     ·obtain rfl : j = es.length := by omega
      have Hnx : Hid (portsFrom (lenE n) 0 (k + 1) = portsFrom (lenE n) 0 k ++ (rowP (lenE n) k).take es.length) := by
       show _ = _
       rw [portsFrom_succ, ← Hle.out, List.take_of_length_le (by simp [rowP])]
      clear hlt2 hj
      go_wp2
      go_roundw
      case rel => exact ⟨k + 1, by omega, by go_num, by rw [Hnx.out]; exact Ho2.out, hsr2⟩
      case measure => simp [intOf]; omega
   ·obtain rfl : k = n.ends.length := by omega
    obtain ⟨ps, hps⟩ : ∃ ps, ps = portsFrom (lenE n) 0 n.ends.length := ⟨_, rfl⟩
    have Hps := Lib.hid hps
    have hpl : ps.length ≤ 240 := by rw [hps]; have := HPL.out n.ends.length; omega
    have HPM := Lib.hid (fun p (hp : p ∈ ps) => ports_mem (n := n) (by rw [← hps]; exact hp))
    rw [← hps] at Ho
    obtain ⟨T, hT⟩ := Ho.out
    obtain ⟨wp, hwp⟩ : ∃ wp, wp = wr := ⟨_, rfl⟩
    rw [← hwp] at hT hsr Ho ⊢
    have HES := Lib.hid (show ∀ X, Since wp X → EndS X u6 (endsOf ps) from fun X hX => (OwnE.read hT).keep hX.below)
    obtain ⟨PA, pc, hpv, hpc, hpm, hpe⟩ := OwnE.read hT
    subst hpv
    have Hpe := Lib.hid hpe
    unfold maxLen at hpm
    have hel : (endsOf ps).length = ps.length := by simp [endsOf]
    have hel2 : ((endsOf ps).length : Int) = (ps.length : Int) := by omega
    have hw1 : Since wp wp := since_refl _
    have HWP := Lib.hid hsr
    rw [hel] at hpc ⊢
    have Hel := Lib.hid hel
    clear hps hT hpe hlt hk hel hel2 hwp
    go_wp2
    go_loopw [10, 49] (fun u i w2 => ∃ k : Nat, k ≤ ps.length ∧ i = .int .i64 k ∧ OwnR w2 wp.heap.size w2.heap.size u (pairTo n ls ps k) ∧ Since wp w2) (fun _ i _ => ps.length - (intOf i).toNat)
    case atStart => exact ⟨0, Nat.zero_le _, rfl, ownR_nil _ _ _, hw1⟩
    case round =>
     obtain ⟨k, hk, rfl, ho, hw2⟩ := hrel
     have Ho3 := Lib.hid ho
     clear hsr hw1 ho
     by_cases hlt : k < ps.length
     ·obtain ⟨p, hp⟩ : ∃ p, ps[k]? = some p := ⟨_, List.getElem?_eq_getElem hlt⟩
      have hpp := HPM.out p (List.mem_of_getElem? hp)
      have hpe : (endsOf ps)[k]? = some ((p.1 : Int), (p.2 : Int)) := by simp [endsOf, hp]
      obtain ⟨bp, op, rfl, hd0, hd1⟩ := Hpe.out k _ hpe
      have r0 := lift_cell (have_cell hd0) hw2
      have r1 := lift_cell (have_cell hd1) hw2
      have Hpp := Lib.hid hpp
      have Hp := Lib.hid (show ps.getD k (0, 0) = p by rw [List.getD_eq_getElem?_getD, hp]; rfl)
      have m3 : IntKind.i64.wrap ((k : Int) + 1) = (k : Int) + 1 := wr64 _ (by omega) (by omega)
      have hk1 : k + 1 ≤ ps.length := hlt
      obtain ⟨w3, hw3⟩ : ∃ z, z = wr.alloc (.cells #[.int .i64 p.1, .int .i64 p.2] 83) := ⟨_, rfl⟩
      have hs3 : Since wr w3 := by rw [hw3]; exact since_alloc _ (since_refl _)
      have b0 : ∀ X, Since w3 X → X.cell? ⟨wr.heap.size, 0, none⟩ = some (.int .i64 p.1) := have_cell (by rw [hw3]; simp)
      have b1 : ∀ X, Since w3 X → X.cell? ⟨wr.heap.size, 1, none⟩ = some (.int .i64 p.2) := have_cell (by rw [hw3]; simp)
      have hsr3 := HWP.out.trans (hw2.after hs3)
      have hw4 := hw2.after hs3
      have Ho4 := Lib.hid ((Ho3.out.keep hs3).up hs3.below.size)
      have h33 : Since w3 w3 := since_refl _
      have B0 := Lib.hid (And.intro (b0 w3 h33) (b1 w3 h33))
      have N0 : Hid (u10.ownBlock ≠ some wr.heap.size) := fun e => by
       have := (Ho3.out.lt e).2
       omega
      have Hw3 := Lib.hid hw3
      clear hp hpe hd0 hd1 hpp hw3 hs3
      go_upto_region 17 with (fail)
      rw [← Hw3.out]
      clear r0 r1 hw2
      by_cases hcut : pc = k + 1
      ·have hz : ps.length - (k + 1) = 0 := by omega
       have hz1 : ps.length = k + 1 := by omega
       go_wp2
       go_loopw [10, 59] (fun u i w5 => i = .int .i64 0 ∧ OwnR w5 wp.heap.size w5.heap.size u (pairTo n ls ps (k + 1)) ∧ Since wp w5) (fun _ i _ => ps.length - (intOf i).toNat)
       case atStart => exact ⟨rfl, by rw [pairTo_succ, hz]; simpa [pairRow] using Ho4.out, hw4⟩
       case round =>
        obtain ⟨rfl, ho5, hw5⟩ := hrel
        have Ho5 := Lib.hid ho5
        clear ho5 hsr3 hw4 h33
        go_wp2
        go_roundw
        case rel => exact ⟨k + 1, by omega, by go_num, Ho5.out, hw5⟩
        case measure => simp [intOf]; omega
      ·obtain ⟨bx, hbx⟩ : ∃ bx, bx = wr.heap.size := ⟨_, rfl⟩
       rw [← hbx] at B0 N0 b0 b1 ⊢
       clear hbx
       go_wp2
       go_loopw [10, 59] (fun u i w5 => ∃ t : Nat, t ≤ ps.length - (k + 1) ∧ i = .int .i64 t ∧ OwnR w5 wp.heap.size w5.heap.size u (pairTo n ls ps k ++ pairRow n ls ps k t) ∧ Since wp w5 ∧ w5.cell? ⟨bx, 0, none⟩ = some (.int .i64 p.1) ∧ w5.cell? ⟨bx, 1, none⟩ = some (.int .i64 p.2) ∧ u.ownBlock ≠ some bx) (fun _ i _ => ps.length - (intOf i).toNat)
       case atStart => exact ⟨0, Nat.zero_le _, rfl, by simpa [pairRow] using Ho4.out, hw4, B0.out.1, B0.out.2, N0.out⟩
       case round =>
        obtain ⟨t, ht, rfl, ho5, hw5, hx0, hx1, hx2⟩ := hrel
        have N1 := Lib.hid hx2
        have hs5 : Since w0 wr := HWP.out.trans hw5
        clear hx2 b0 b1
        have Ho5 := Lib.hid ho5
        clear ho5 hsr3 hw4 h33
        by_cases hlt2 : t < ps.length - (k + 1)
        ·obtain ⟨q, hq⟩ : ∃ q, ps[k + 1 + t]? = some q := ⟨_, List.getElem?_eq_getElem (by omega)⟩
         have hqq := HPM.out q (List.mem_of_getElem? hq)
         have hqe : (endsOf ps)[k + 1 + t]? = some ((q.1 : Int), (q.2 : Int)) := by simp [endsOf, hq]
         obtain ⟨bq, oq, hbq, hd0, hd1⟩ := Hpe.out (k + 1 + t) _ hqe
         cases hbq
         rw [show op + (k + 1 + t) * 2 = op + (k + 1) * 2 + t * 2 by omega] at hd0 hd1
         have r0 := lift_cell (have_cell hd0) hw5
         have r1 := lift_cell (have_cell hd1) hw5
         have hbxl : bx < wr.heap.size := World.block_lt_of_cell? wr _ hx0
         have c0 := have_cell hx0
         have c1 := have_cell hx1
         have q00 := lift_cell p00 hs5
         have q01 := lift_cell p01 hs5
         have q02 := lift_cell p02 hs5
         obtain ⟨LL, hLL⟩ : ∃ LL, LL = pairTo n ls ps k ++ pairRow n ls ps k t := ⟨_, rfl⟩
         rw [← hLL] at Ho5
         have hLl : LL.length + 1 ≤ 1000000 := by
          rw [hLL, List.length_append]
          have h1 := pairTo_len n ls ps k
          have h2 := pairRow_len n ls ps k t
          have h3 : k * ps.length ≤ 240 * 240 := Nat.mul_le_mul (by omega) (by omega)
          omega
         obtain ⟨zb, hzb⟩ : ∃ zb, zb = hidB n.ends ls ((p.1 : Int), (p.2 : Int)) ((q.1 : Int), (q.2 : Int)) := ⟨_, rfl⟩
         have Hn3 : Hid (pairTo n ls ps k ++ pairRow n ls ps k (t + 1) = LL ++ if zb then [((p.1 : Int), (p.2 : Int), (q.1 : Int), (q.2 : Int))] else []) := by
          show _ = _
          rw [pairRow_succ hq, Hp.out, hLL, List.append_assoc, hzb]
          rfl
         obtain ⟨w6, hw6'⟩ : ∃ z, z = wr.alloc (.cells #[.int .i64 q.1, .int .i64 q.2] 83) := ⟨_, rfl⟩
         have hs6 : Since wr w6 := by rw [hw6']; exact since_alloc _ (since_refl _)
         have e0 : ∀ X, Since w6 X → X.cell? ⟨wr.heap.size, 0, none⟩ = some (.int .i64 q.1) := have_cell (by rw [hw6']; simp)
         have e1 : ∀ X, Since w6 X → X.cell? ⟨wr.heap.size, 1, none⟩ = some (.int .i64 q.2) := have_cell (by rw [hw6']; simp)
         have f0 := lift_cell c0 hs6
         have f1 := lift_cell c1 hs6
         have g00 := lift_cell q00 hs6
         have g01 := lift_cell q01 hs6
         have g02 := lift_cell q02 hs6
         have Hs6 := Lib.hid (hs5.after hs6)
         have Hw6 := Lib.hid (hw5.after hs6)
         have Ho6 := Lib.hid ((Ho5.out.keep hs6).up hs6.below.size)
         have hcall := crossable_any _ _ _ _ n ls (p.1 : Int) (p.2 : Int) (q.1 : Int) (q.2 : Int) w6 (H.out.keep Hs6.out.below) (HL.out.keep Hs6.out.below) Hn.out Hll.out (port_has Hpp.out.1 Hpp.out.2) (port_has hqq.1 hqq.2)
         rw [← hzb] at hcall
         have Hcall := Lib.hid hcall
         have Hw6' := Lib.hid hw6'
         have h66 : Since w6 w6 := since_refl _
         have hbx6 : bx < w6.heap.size := Nat.lt_of_lt_of_le hbxl hs6.below.size
         clear hs6
         clear hq hqq hqe hd0 hd1 hLL hzb hw6' hcall hx0 hx1
         go_upto_region 20 with (fail)
         rw [← Hw6'.out]
         clear r0 r1 c0 c1 q00 q01 q02 hs5 hw5
         go_wp2_with fail
         refine Hcall.out.mono ?_
         rintro e w7 ⟨rfl, hb7⟩
         have hs67 : Since w6 w7 := hb7
         have hs7 : Since w0 w7 := Hs6.out.trans hb7
         have hwp7 := Lib.hid (Hw6.out.trans hb7)
         have hbx7 : bx < w7.heap.size := Nat.lt_of_lt_of_le hbx6 hs67.below.size
         have Ho7 := Lib.hid ((Ho6.out.keep hs67).up hs67.below.size)
         have y0 := lift_cell f0 hs67
         have y1 := lift_cell f1 hs67
         have y2 := lift_cell e0 hs67
         have y3 := lift_cell e1 hs67
         have h77 : Since w7 w7 := since_refl _
         have Y := Lib.hid (And.intro (y0 w7 h77) (y1 w7 h77))
         clear f0 f1 e0 e1 g00 g01 g02 h66 hb7 hs67
         cases zb
         ·have Hn4 : Hid (pairTo n ls ps k ++ pairRow n ls ps k (t + 1) = LL) := by show _ = _; rw [Hn3.out]; simp
          clear y0 y1 y2 y3 h77
          go_wp2
          go_roundw
          case rel => exact ⟨t + 1, by omega, by go_num, by rw [Hn4.out]; exact Ho7.out, hwp7.out, Y.out.1, Y.out.2, N1.out⟩
          case measure => simp [intOf]; omega
         ·have Hn4 : Hid (pairTo n ls ps k ++ pairRow n ls ps k (t + 1) = LL ++ [((p.1 : Int), (p.2 : Int), (q.1 : Int), (q.2 : Int))]) := by show _ = _; rw [Hn3.out]; simp
          obtain ⟨w8, hw8⟩ : ∃ w8, w8 = (w7.alloc (fourR ((p.1 : Int), (p.2 : Int), (q.1 : Int), (q.2 : Int)))).alloc (.cells #[rowR w7.heap.size] 25) := ⟨_, rfl⟩
          have hs78 : Since w7 w8 := by rw [hw8]; exact since_alloc _ (since_alloc _ (since_refl _))
          have Ho8 := Lib.hid (Ho7.out.keep hs78)
          have c8 : w8.cell? ⟨w7.heap.size + 1, 0, none⟩ = some (rowR w7.heap.size) := by rw [hw8]; simp
          have r8 : w8.heap[w7.heap.size]? = some (fourR ((p.1 : Int), (p.2 : Int), (q.1 : Int), (q.2 : Int))) := by
           have h1 : (w7.alloc (fourR ((p.1 : Int), (p.2 : Int), (q.1 : Int), (q.2 : Int)))).heap[w7.heap.size]? = some (fourR ((p.1 : Int), (p.2 : Int), (q.1 : Int), (q.2 : Int))) := heap_alloc_new w7 _
           have h2 : Since (w7.alloc (fourR ((p.1 : Int), (p.2 : Int), (q.1 : Int), (q.2 : Int)))) w8 := by rw [hw8]; exact since_alloc _ (since_refl _)
           rw [h2.below.block _ (Array.getElem?_eq_some_iff.1 h1).1]; exact h1
          have n8 : u10.ownBlock ≠ some w7.heap.size := fun e => by
           have := (Ho7.out.lt e).2
           omega
          have Hc8 := Lib.hid (And.intro c8 (And.intro r8 n8))
          have Hq8 := Lib.hid (hwp7.out.after hs78)
          have Hz8 := Lib.hid hs78.below.size
          have g7 : wp.heap.size ≤ w7.heap.size := (Since.below hwp7.out).size
          have Y8 := Lib.hid (And.intro (y0 w8 hs78) (y1 w8 hs78))
          have hbx8 : bx < w8.heap.size := Nat.lt_of_lt_of_le hbx7 hs78.below.size
          have Hw8 := Lib.hid hw8
          simp only [fourR, rowR] at hw8
          clear hs78 c8 r8 n8
          go_wp2_with (at_builtin; rw [← hw8]; refine app_rowR2 rfl _ _ rfl rfl Ho8.out (w7.heap.size + 1) w7.heap.size ((p.1 : Int), (p.2 : Int), (q.1 : Int), (q.2 : Int)) rfl Hc8.out.1 g7 (Nat.le_refl _) Hc8.out.2.1 Hc8.out.2.2 hLl Hq8.out ?_; intro g9 cc9 w9 ho9 hs9 hk9 hg9)
          have Ho9 := Lib.hid ho9
          have Hs9 := Lib.hid hs9
          have hblk := hk9 bx hbx8 N1.out
          have Y9 : Hid (w9.cell? ⟨bx, 0, none⟩ = some (.int .i64 p.1) ∧ w9.cell? ⟨bx, 1, none⟩ = some (.int .i64 p.2)) := by
           show _ ∧ _
           refine ⟨?_, ?_⟩
           ·have := Y8.out.1
            unfold World.cell? at this ⊢
            simp only at this ⊢
            rw [hblk]
            exact this
           ·have := Y8.out.2
            unfold World.cell? at this ⊢
            simp only at this ⊢
            rw [hblk]
            exact this
          have N9 : Hid (g9 ≠ bx) := fun e => by
           subst e
           rcases hg9 with hg9 | hg9
           ·exact N1.out hg9
           ·omega
          clear ho9 hs9 hs7 hw8 y0 y1 y2 y3 h77 hk9 hg9 hblk
          go_wp2
          go_roundw
          case rel => exact ⟨t + 1, by omega, by go_num, by rw [Hn4.out]; first | exact Ho9.out | (simpa using Ho9.out), Hs9.out, Y9.out.1, Y9.out.2, by simpa [Value.ownBlock] using N9.out⟩
          case measure => simp [intOf]; omega
        ·obtain rfl : t = ps.length - (k + 1) := by omega
         clear hlt2 ht
         go_wp2
         go_roundw
         case rel => exact ⟨k + 1, by omega, by go_num, by rw [pairTo_succ]; exact Ho5.out, hw5⟩
         case measure => simp [intOf]; omega
     ·obtain rfl : k = ps.length := by omega
      have HS := Lib.hid (HWP.out.trans hw2)
      have HSZ := Lib.hid (Nat.le_trans Hb0.out.size HWP.out.below.size)
      have HA : Hid (pairTo n ls ps ps.length = crossings n ls) := by show _ = _; rw [pairTo_all, crossings_all, ← Hps.out]
      clear hw2 hlt hk
      go_wp2
      go_ret2
      obtain ⟨S, hS⟩ := Ho3.out.toII HSZ.out
      exact ⟨u10, S, cx_tup Hok.out u10, by
       unfold fnExactCrossingsOf_d
       rw [if_pos Hok.out, ← HA.out]
       exact hS, Since.after Hb0.out HS.out⟩
 ·have Hbad := Lib.hid (cx_bad hg)
  have HW1 := Lib.hid hW1
  clear hW1 hg
  go_wp2
  go_ret2
  exact ⟨.slice none 0 0, [], cx_tupF Hbad.out _, by
   unfold fnExactCrossingsOf_d
   rw [if_neg (by rw [Hbad.out]; simp)]
   exact ⟨[], [], World.ownsRow_nil _ _ _ _, rfl, fun k u x T hk => by simp at hk, rfl, by simp⟩, Since.after Hb0.out HW1.out⟩
end Go.Proofs.YtgmdpppljkmabaaGreat
namespace Go.Proofs.YtgmdpppljkmabaaGreat
open Go Go.RowKit
/-! A region that draws its order: reads whose values are known, and one store among them that changes none of them; a tail of one order. -/
section
variable {P : Program} {ops : Array Oper}
theorem wp_region_ls {Q : Exit → Act → World → Prop} {rid : Nat} {a : Act} {w : World} (k s : Nat) (vals : Nat → Value) (G0 G1 : World → Prop) (hm : P.follows .mixedOrders = true) (hf : flowB ops k = true) (hkn : decide (k ≤ ops.size) = true)
  (h0 : G0 w.drew)
  (hstep : ∀ i o, i < k → i ≠ s → ops[i]? = some o → ∀ W, G0 W ∨ G1 W → Region.wanted o (yielded ops (putAll ops (List.range k) vals a).tmps) = true ∧ (execOp (putAll ops (List.range k) vals a).eval o).run P W = .ok (.value (vals i)) W)
  (hstore : ∀ o, ops[s]? = some o → o.dst = none ∧ ∀ W, G0 W → Region.wanted o (yielded ops (putAll ops (List.range k) vals a).tmps) = true ∧ ∃ W', (execOp (putAll ops (List.range k) vals a).eval o).run P W = .ok .skip W' ∧ G1 W')
  (hsk : s < k) (hend : ∀ W, G1 W → wpList P ops Q (ops.toList.drop k) (putAll ops (List.range k) vals a) W) : (Code.region rid ops true).wp P Q a w := by
 have hok := flow_ok hf
 have hkn := of_decide_eq_true hkn
 have frame : FrameIs a ops vals (fun j => j < k) (putAll ops (List.range k) vals a) := by
  have := frame_putAll (a := a) hok.dsts hkn vals (List.range k) (fun _ => False) a (fun _ h => h.elim) (fun j hj => ⟨List.mem_range.1 hj, id⟩) List.nodup_range (FrameIs.start a vals)
  exact this.same (fun j => by simp)
 let J : (Nat → Prop) → Act → World → Prop := fun D a' W =>
  ((¬ D s → G0 W) ∧ (D s → G1 W) ∧ (∀ j, D j → j < k) ∧ FrameIs a ops vals D a') ∨
  (∃ m, k ≤ m ∧ m ≤ ops.size ∧ (∀ j, j < ops.size → (D j ↔ j < m)) ∧ wpList P ops Q (ops.toList.drop m) a' W)
 have full : ∀ D a' W, J D a' W → (∀ j, j < k → D j) → ∃ m, k ≤ m ∧ m ≤ ops.size ∧ (∀ j, j < ops.size → (D j ↔ j < m)) ∧ wpList P ops Q (ops.toList.drop m) a' W := by
  intro D a' W hJ hD
  rcases hJ with ⟨-, h1, hDk, hfr⟩ | hJ
  ·have e : a' = putAll ops (List.range k) vals a := hfr.ext frame (fun j _ => ⟨hDk j, hD j⟩)
   subst e
   exact ⟨k, Nat.le_refl _, hkn, fun j _ => ⟨hDk j, hD j⟩, hend W (h1 (hD s hsk))⟩
  ·exact hJ
 refine wp_region_inv2 hm hok.back J (.inl ⟨fun _ => h0, fun h => h.elim, fun j hj => hj.elim, FrameIs.start a _⟩) ?_ ?_
 ·intro D a' W i o hJ ho hDi hdep hcl
  have hin : i < ops.size := (Array.getElem?_eq_some_iff.1 ho).1
  by_cases hik : i < k
  ·rcases hJ with ⟨hg0, hg1, hDk, hfr⟩ | ⟨m, h1, h2, h3, _⟩
   rotate_left
   ·exact absurd ((h3 i hin).2 (by omega)) hDi
   obtain ⟨he, hw'⟩ := agree_exec (ops := ops) (a' := a') (A := putAll ops (List.range k) vals a) (fun t ht => hfr.agree frame t (fun j oj hj hoj hd => by
    have hjk : j < k := hj.elim (fun h => hDk j h) id
    exact ⟨hdep j (hok.looks i o hik ho t ht j oj hjk hoj hd), hjk⟩)) (fun cs b => hok.nosel i o cs b ho)
   have dist : ∀ j oj d, D j → ops[j]? = some oj → o.dst = some d → oj.dst ≠ some d := fun j oj d hj hoj hd hd2 => by
    have := hok.dsts i o hik ho j oj (hDk j hj) hoj d hd hd2
    subst this
    exact hDi hj
   by_cases his : i = s
   ·subst his
    obtain ⟨hdn, hst⟩ := hstore o ho
    obtain ⟨hw, W', hrun, hG⟩ := hst W (hg0 hDi)
    rw [if_pos (hw'.trans hw)]
    refine .inl ?_
    unfold Oper.wp
    rw [he, hrun]
    refine .inl ⟨fun h => (h (.inr rfl)).elim, fun _ => hG, fun j hj => hj.elim (hDk j) (fun e => by omega), ?_⟩
    have := hfr.put (i := i) ho dist
    rw [hdn] at this ⊢
    exact this
   ·obtain ⟨hw, hrun⟩ := hstep i o hik his ho W ((Classical.em (D s)).elim (fun h => .inr (hg1 h)) (fun h => .inl (hg0 h)))
    rw [if_pos (hw'.trans hw)]
    refine .inl ?_
    unfold Oper.wp
    rw [he, hrun]
    exact .inl ⟨fun h => hg0 (fun hs => h (.inl hs)), fun h => hg1 (h.elim id (fun e => absurd e.symm his)), fun j hj => hj.elim (hDk j) (fun e => by omega), hfr.put (i := i) ho dist⟩
  ·have hall : ∀ j, j < i → D j := fun j hj => anc_ready hcl ho hdep (hok.tail i (by omega) hin j hj)
   obtain ⟨m, h1, h2, h3, h4⟩ := full D a' W hJ (fun j hj => hall j (by omega))
   have hmi : m = i := by
    by_cases e1 : i < m
    ·exact absurd ((h3 i hin).2 e1) hDi
    ·by_cases e2 : m < i
     ·have := (h3 m (by omega)).1 (hall m e2); omega
     ·omega
   subst hmi
   have hdr : ops.toList.drop m = o :: ops.toList.drop (m + 1) := by
    have : m < ops.toList.length := by simpa using hin
    rw [List.drop_eq_getElem_cons this]
    congr 1
    have := (Array.getElem?_eq_some_iff.1 ho).2
    simpa using this
   rw [hdr] at h4
   unfold wpList at h4
   have next : ∀ a W, wpList P ops Q (ops.toList.drop (m + 1)) a W → J (fun j => D j ∨ j = m) a W := fun a W h => .inr ⟨m + 1, by omega, by omega, fun j hj => by
    constructor
    ·rintro (h | rfl)
     ·have := (h3 j hj).1 h; omega
     ·omega
    ·intro h
     by_cases e : j = m
     ·exact .inr e
     ·exact .inl ((h3 j hj).2 (by omega)), h⟩
   split
   ·rename_i hw
    rw [if_pos hw] at h4
    exact h4.imp (Oper.wp_mono next) id
   ·rename_i hw
    rw [if_neg hw] at h4
    exact next _ _ h4
 ·intro D a' W hJ hall
  obtain ⟨m, h1, h2, h3, h4⟩ := full D a' W hJ (fun j hj => hall j (by omega))
  have hmn : m = ops.size := by
   by_cases e : m < ops.size
   ·have := (h3 m e).1 (hall m e); omega
   ·omega
  subst hmn
  rw [List.drop_eq_nil_of_le (by simp)] at h4
  exact h4
end
end Go.Proofs.YtgmdpppljkmabaaGreat
