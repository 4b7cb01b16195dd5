/- Parts of the proof: walks of functions and plain laws. -/
import Derived.Test.YtomnaabadohecaaGreatP3
import Derived.Test.YtomnaabadohecaaGreatP2
import Derived.Test.YtomnaabadohecaaGreatP0
import Derived.Test.YtomnaabadohecaaGreatP1
namespace Go.Proofs.YtomnaabadohecaaGreat
open Go.RowKit
set_option maxHeartbeats 1000000 in
theorem toEnd_any (a b : Int) (w : World) : Calls Tryz.prog 196 #[.agg #[.int .i64 a, .int .i64 b]] w fun e w' => e = .returned (.agg #[.int .i64 a, .int .i64 b]) ∧ Below w.heap.size w w' := by
  go_enter Tryz.func196, Tryz.ntmps196
  go_wp2
  refine bodyPost_ret (v := .agg #[.int .i64 a, .int .i64 b]) (by simp [results, Tryz.results196, go_sem]) rfl ?_
  exact ⟨rfl, below3 _ _ _ _⟩
/-- what is left of a size -/
def left (l : Int) (n : Nat) : Int := if l - n < 0 then -1 else l - n
set_option maxHeartbeats 1000000 in
theorem szEndS_any (v : Value) (es : List (Int × Int)) (l : Int) (hl : 0 ≤ l) (hl2 : l ≤ 1048576) (w : World) (h : EndS w v es) : Calls Tryz.prog 124 #[v, .int .i64 l] w fun e w' => e = .returned (.int .i64 (left l es.length)) ∧ w = w' := by
  obtain ⟨A, c, rfl, hlc, hm, _⟩ := h
  unfold maxLen at hm
  by_cases h : l - es.length < 0
  · rw [show left l es.length = -1 by simp [left, h]]
    go_enter Tryz.func124, Tryz.ntmps124
    go_wp2
    go_ret
    exact ⟨rfl, rfl⟩
  · rw [show left l es.length = l - es.length by simp [left, h]]
    go_enter Tryz.func124, Tryz.ntmps124
    go_wp2
    go_ret
    exact ⟨rfl, rfl⟩
set_option maxHeartbeats 1000000 in
theorem szIntS_any (v : Value) (xs : List Int) (l : Int) (hl : 0 ≤ l) (hl2 : l ≤ 1048576) (w : World) (h : IntS w v xs) : Calls Tryz.prog 62 #[v, .int .i64 l] w fun e w' => e = .returned (.int .i64 (left l xs.length)) ∧ w = w' := by
  obtain ⟨A, c, rfl, hlc, hm, _⟩ := h
  unfold maxLen at hm
  by_cases h : l - xs.length < 0
  · rw [show left l xs.length = -1 by simp [left, h]]
    go_enter Tryz.func62, Tryz.ntmps62
    go_wp2
    go_ret
    exact ⟨rfl, rfl⟩
  · rw [show left l xs.length = l - xs.length by simp [left, h]]
    go_enter Tryz.func62, Tryz.ntmps62
    go_wp2
    go_ret
    exact ⟨rfl, rfl⟩
end Go.Proofs.YtomnaabadohecaaGreat
namespace Go.Proofs.YtomnaabadohecaaGreat
open Go.RowKit
def szRows (ess : List (List (Int × Int))) : Nat := (ess.map List.length).sum
theorem szRows_snoc {ess : List (List (Int × Int))} {k : Nat} {es : List (Int × Int)} (h : ess[k]? = some es) : szRows (ess.take (k + 1)) = szRows (ess.take k) + es.length := by
  unfold szRows
  rw [List.take_add_one, h]; simp
theorem szRows_le (ess : List (List (Int × Int))) (k : Nat) : szRows (ess.take k) ≤ szRows ess := by
  unfold szRows
  conv => rhs; rw [← List.take_append_drop k ess]
  rw [List.map_append, List.sum_append]; omega
def szEE (ess : List (List (Int × Int))) : Nat := ess.length + szRows ess
theorem left_neg {l : Int} {n m : Nat} (h : l - n < 0) (hm : n ≤ m) : left l m = -1 := by unfold left; rw [if_pos (by omega)]
theorem left_pos {l : Int} {n : Nat} (h : ¬ l - n < 0) : left l n = l - n := by unfold left; rw [if_neg h]
set_option maxHeartbeats 2000000 in
theorem szEndSS_any (v : Value) (ess : List (List (Int × Int))) (l : Int) (hl : 0 ≤ l) (hl2 : l ≤ 1048576) (w : World) (h : EndSS w v ess) : Calls Tryz.prog 63 #[v, .int .i64 l] w fun e w' => e = .returned (.int .i64 (left l (szEE ess))) ∧ w = w' := by
  obtain ⟨A, c, rfl, hlc, hm, hA⟩ := h
  unfold maxLen at hm
  have HA := Lib.hid hA
  clear hA
  by_cases h : l - ess.length < 0
  · have hr := Lib.hid (left_neg (m := szEE ess) h (by unfold szEE; omega))
    go_enter Tryz.func63, Tryz.ntmps63
    go_wp2
    go_ret
    exact ⟨ret_int hr.out.symm, rfl⟩
  · go_enter Tryz.func63, Tryz.ntmps63
    go_wp2
    go_loop [1, 5] (fun t i => ∃ k : Nat, k ≤ ess.length ∧ i = .int .i64 k ∧ t = .int .i64 (l - ess.length - szRows (ess.take k)) ∧ 0 ≤ l - ess.length - szRows (ess.take k)) (fun _ i => ess.length - (intOf i).toNat)
    case atStart => exact ⟨0, Nat.zero_le _, rfl, by simp [szRows], by simp [szRows]; omega⟩
    case round =>
      obtain ⟨k, hk, rfl, rfl, hge⟩ := hrel
      obtain ⟨t, ht⟩ : ∃ t, t = l - ess.length - szRows (ess.take k) := ⟨_, rfl⟩
      rw [← ht] at hge ⊢
      by_cases hlt : k < ess.length
      · obtain ⟨es, hes⟩ := getx ess k hlt
        obtain ⟨b, off, u, rfl, hcell, hu⟩ := HA.out k es hes
        have Hu := Lib.hid hu
        have hs := szRows_snoc hes
        have ht2 : t ≤ 1048576 := by omega
        by_cases hneg : t - es.length < 0
        · have hr := Lib.hid (show left l (szEE ess) = -1 from left_neg (n := ess.length + szRows (ess.take (k + 1))) (by omega) (by have := szRows_le ess (k + 1); unfold szEE; omega))
          have hlf : left t es.length = -1 := by unfold left; rw [if_pos hneg]
          have Ht := Lib.hid ht
          clear ht hs hu hes
          go_wp2_with fail
          refine (szEndS_any _ es t hge ht2 _ Hu.out).mono ?_
          rw [hlf]
          rintro e w' ⟨rfl, rfl⟩
          go_wp2
          go_ret
          exact ⟨ret_int hr.out.symm, rfl⟩
        · have hlf : left t es.length = t - es.length := left_pos hneg
          have Ht := Lib.hid ht
          have Hs := Lib.hid hs
          clear ht hs hu hes
          go_wp2_with fail
          refine (szEndS_any _ es t hge ht2 _ Hu.out).mono ?_
          rw [hlf]
          rintro e w' ⟨rfl, rfl⟩
          go_wp2
          go_round
          case rel => exact ⟨k + 1, by omega, by simp, by have := Ht.out; have := Hs.out; congr 1; omega, by have := Ht.out; have := Hs.out; omega⟩
          case measure => simp [intOf]; omega
      · obtain rfl : k = ess.length := by omega
        have hr := Lib.hid (show left l (szEE ess) = t by rw [left_pos (by rw [List.take_length] at ht; unfold szEE; omega), ht, List.take_length]; unfold szEE; omega)
        clear ht
        go_wp2
        go_ret
        exact ⟨ret_int hr.out.symm, rfl⟩
end Go.Proofs.YtomnaabadohecaaGreat
namespace Go.Proofs.YtomnaabadohecaaGreat
open Go.RowKit
def szNet (n : Net) : Nat := szEE n.ends + n.ids.length + n.inputs.length
set_option maxHeartbeats 2000000 in
theorem szNetwork_any (ve vi vn : Value) (n : Net) (l : Int) (hl : 0 ≤ l) (hl2 : l ≤ 1048576) (w : World) (h : NetIn w ve vi vn n) : Calls Tryz.prog 11 #[.agg #[ve, vi, vn], .int .i64 l] w fun e w' => e = .returned (.int .i64 (left l (szNet n))) ∧ Below w.heap.size w w' := by
  have hb0 : Below w.heap.size w (w.alloc (.cells #[ve, vi, vn] 29)) := below_alloc _ _
  obtain ⟨h1, h2, h3⟩ := h.keep hb0
  have H1 := Lib.hid h1
  have H2 := Lib.hid h2
  have H3 := Lib.hid h3
  have Hb0 := Lib.hid hb0
  obtain ⟨A1, z1, rfl, _⟩ := h1
  obtain ⟨A2, z2, rfl, _⟩ := h2
  obtain ⟨A3, z3, rfl, _⟩ := h3
  clear h hb0
  by_cases c1 : l - szEE n.ends < 0
  · have hr := Lib.hid (show left l (szNet n) = -1 from left_neg c1 (by unfold szNet; omega))
    have e1 : left l (szEE n.ends) = -1 := left_neg c1 (Nat.le_refl _)
    go_enter Tryz.func11, Tryz.ntmps11
    go_wp2_with fail
    refine (szEndSS_any _ n.ends l hl hl2 _ H1.out).mono ?_
    rw [e1]
    rintro e w' ⟨rfl, rfl⟩
    go_wp2
    go_ret
    exact ⟨ret_int hr.out.symm, Hb0.out⟩
  · have e1 : left l (szEE n.ends) = l - szEE n.ends := left_pos c1
    obtain ⟨t, ht⟩ : ∃ t, t = l - szEE n.ends := ⟨_, rfl⟩
    rw [← ht] at e1 c1
    have ht1 : 0 ≤ t := by omega
    have ht2 : t ≤ 1048576 := by omega
    by_cases c2 : t - n.ids.length < 0
    · have hr := Lib.hid (show left l (szNet n) = -1 from left_neg (n := szEE n.ends + n.ids.length) (by omega) (by unfold szNet; omega))
      have e2 : left t n.ids.length = -1 := left_neg c2 (Nat.le_refl _)
      have Ht := Lib.hid ht
      clear ht
      go_enter Tryz.func11, Tryz.ntmps11
      go_wp2_with fail
      refine (szEndSS_any _ n.ends l hl hl2 _ H1.out).mono ?_
      rw [e1]
      rintro e w' ⟨rfl, rfl⟩
      go_wp2_with fail
      refine (szIntS_any _ n.ids t ht1 ht2 _ H2.out).mono ?_
      rw [e2]
      rintro e w' ⟨rfl, rfl⟩
      go_wp2
      go_ret
      exact ⟨ret_int hr.out.symm, Hb0.out⟩
    · have e2 : left t n.ids.length = t - n.ids.length := left_pos c2
      obtain ⟨s, hs⟩ : ∃ s, s = t - n.ids.length := ⟨_, rfl⟩
      rw [← hs] at e2 c2
      have hs1 : 0 ≤ s := by omega
      have hs2 : s ≤ 1048576 := by omega
      obtain ⟨q, hq⟩ : ∃ q, q = left s n.inputs.length := ⟨_, rfl⟩
      have hr := Lib.hid (show left l (szNet n) = q by rw [hq]; unfold left szNet; split <;> split <;> omega)
      by_cases c3 : q < 0
      · have hq1 : q = -1 := by rw [hq]; unfold left; split <;> (unfold left at hq; split at hq <;> omega)
        have Ht := Lib.hid ht
        have Hs := Lib.hid hs
        have Hq := Lib.hid hq
        clear ht hs hq
        subst hq1
        go_enter Tryz.func11, Tryz.ntmps11
        go_wp2_with fail
        refine (szEndSS_any _ n.ends l hl hl2 _ H1.out).mono ?_
        rw [e1]
        rintro e w' ⟨rfl, rfl⟩
        go_wp2_with fail
        refine (szIntS_any _ n.ids t ht1 ht2 _ H2.out).mono ?_
        rw [e2]
        rintro e w' ⟨rfl, rfl⟩
        go_wp2_with fail
        refine (szIntS_any _ n.inputs s hs1 hs2 _ H3.out).mono ?_
        rw [← Hq.out]
        rintro e w' ⟨rfl, rfl⟩
        go_wp2
        go_ret
        exact ⟨ret_int hr.out.symm, Hb0.out⟩
      · have Ht := Lib.hid ht
        have Hs := Lib.hid hs
        have Hq := Lib.hid hq
        clear ht hs hq
        go_enter Tryz.func11, Tryz.ntmps11
        go_wp2_with fail
        refine (szEndSS_any _ n.ends l hl hl2 _ H1.out).mono ?_
        rw [e1]
        rintro e w' ⟨rfl, rfl⟩
        go_wp2_with fail
        refine (szIntS_any _ n.ids t ht1 ht2 _ H2.out).mono ?_
        rw [e2]
        rintro e w' ⟨rfl, rfl⟩
        go_wp2_with fail
        refine (szIntS_any _ n.inputs s hs1 hs2 _ H3.out).mono ?_
        rw [← Hq.out]
        rintro e w' ⟨rfl, rfl⟩
        go_wp2
        go_ret
        exact ⟨ret_int hr.out.symm, Hb0.out⟩
end Go.Proofs.YtomnaabadohecaaGreat
namespace Go.Proofs.YtomnaabadohecaaGreat
open Go.RowKit
theorem encE_zeros (n : Nat) : (List.replicate n ((0 : Int), (0 : Int))).flatMap encE = List.replicate (n * 2) (Value.int .i64 0) := by
  induction n with
  | zero => rfl
  | succ n ih => rw [List.replicate_succ, List.flatMap_cons, ih, show (n + 1) * 2 = n * 2 + 1 + 1 by omega, List.replicate_succ, List.replicate_succ]; rfl
theorem made_ends (n : Nat) : (madeCells #[Value.int .i64 0, Value.int .i64 0] (n * 2)).toList = (List.replicate n ((0 : Int), (0 : Int))).flatMap encE := by
  rw [encE_zeros]
  apply List.ext_getElem (by simp [madeCells])
  intro i h1 h2
  simp [madeCells]
  rcases Nat.mod_two_eq_zero_or_one i with h | h <;> simp [h]
section
variable {ops : Array Oper} {rest : List Oper} {o : Oper} {a : Act} {Q : Exit → Act → World → Prop}
theorem mk_ends (w : World) (hg : o.guard = none) (l c : Operand) (hop : o.op = Op.makeSlice 112 l c) (L C : Int) (n : Nat) (hl : a.eval l = .int .i64 L) (hc : a.eval c = .int .i64 C) (hL : L = (n : Int)) (hC : C = (n : Int)) (hn : n ≤ 1099511627776)
    (hK : ∀ w', OwnE w' w.heap.size (.slice (some ⟨w.heap.size, 0, none⟩) n n) (List.replicate n (0, 0)) [w.heap.size] → Below w.heap.size w w' → wpList Tryz.prog ops Q rest (a.put o.dst (.slice (some ⟨w.heap.size, 0, none⟩) n n)) w') : wpList Tryz.prog ops Q (o :: rest) a w := by
  obtain ⟨i0, hi, hz0, hz1, hz2⟩ := info_parts end_info
  refine wpList_make_full w hg l c 112 hop w.heap.size 114 i0 (.agg #[.int .i64 0, .int .i64 0]) 2 Tryz.underlying112 hi hz0 hz1 .i64 .i64 L C n hl hc hL hC (by rw [hz2]; omega) (by unfold maxLen; omega) (Nat.le_refl _) ?_
  intro w' ho hgr
  rw [show (Value.agg #[Value.int IntKind.i64 0, Value.int IntKind.i64 0]).cells = #[Value.int .i64 0, Value.int .i64 0] from rfl, made_ends] at ho
  exact hK w' ⟨by rw [List.length_replicate]; exact ho, by simp [Value.ownBlock]⟩ (below_grown hgr)
end
set_option maxHeartbeats 2000000 in
theorem toEndS_any (v : Value) (es : List (Int × Int)) (w : World) (h : EndS w v es) (hl : es.length ≤ 1048576) :
    Calls Tryz.prog 130 #[v] w fun e w' => ∃ g, e = .returned (.slice (some ⟨g, 0, none⟩) es.length es.length) ∧ OwnE w' w.heap.size (.slice (some ⟨g, 0, none⟩) es.length es.length) es [g] ∧ Below w.heap.size w w' := by
  obtain ⟨A, c, rfl, hlc, hm, hA⟩ := h
  unfold maxLen at hm
  have HA := Lib.hid hA
  clear hA
  go_enter Tryz.func130, Tryz.ntmps130
  go_wp2_with (at_make; refine mk_ends _ rfl _ _ rfl _ _ es.length rfl rfl rfl rfl (by omega) ?_; intro w1 ho1 hb1)
  go_loopw [4] (fun i wr => ∃ k : Nat, k ≤ es.length ∧ i = .int .i64 k ∧ OwnE wr w.heap.size (.slice (some ⟨w.heap.size, 0, none⟩) es.length es.length) (es.take k ++ List.replicate (es.length - k) (0, 0)) [w.heap.size] ∧ Below w.heap.size w wr) (fun i _ => es.length - (intOf i).toNat)
  case atStart => exact ⟨0, Nat.zero_le _, rfl, by simpa using ho1, hb1⟩
  case round =>
    obtain ⟨k, hk, rfl, ho, hb⟩ := hrel
    clear ho1 hb1
    by_cases hlt : k < es.length
    · obtain ⟨x, hx⟩ := getx es k hlt
      obtain ⟨b, off, rfl, hc1, hc2⟩ := HA.out k x hx
      have k1 := bc hb hc1
      have k2 := bc hb hc2
      have Ho := Lib.hid ho
      have Hb := Lib.hid hb
      have Hx := Lib.hid hx
      clear hx hc1 hc2 ho hb
      go_wp2_with fail
      refine (toEnd_any x.1 x.2 _).mono ?_
      rintro e w2 ⟨rfl, hb2⟩
      have ho2 : OwnE w2 w.heap.size (.slice (some ⟨w.heap.size, 0, none⟩) es.length es.length) (es.take k ++ List.replicate (es.length - k) (0, 0)) [w.heap.size] := lawE.keep Ho.out hb2
      obtain ⟨y, hy⟩ := getx (es.take k ++ List.replicate (es.length - k) (0, 0)) k (by simp; omega)
      obtain ⟨y1, y2, f1, f2⟩ := ho2.cells hy
      have ho3 := ho2.set (k := k) (by simp; omega) x
      rw [set_fill (0, 0) es k x Hx.out] at ho3
      have Ho3 := Lib.hid ho3
      have Hb3 := Lib.hid (((Hb.out.trans (hb2.mono Hb.out.size)).setCell (p := ⟨w.heap.size, k * 2, none⟩) (Nat.le_refl _) (.int .i64 x.1)).setCell (p := ⟨w.heap.size, k * 2 + 1, none⟩) (Nat.le_refl _) (.int .i64 x.2))
      clear ho2 hy ho3 hb2
      go_wp2
      go_roundw
      case rel => exact ⟨k + 1, by omega, by simp, Ho3.out, Hb3.out⟩
      case measure => simp [intOf]; omega
    · have e1 : es.take k ++ List.replicate (es.length - k) ((0 : Int), (0 : Int)) = es := by rw [take_all es hlt, show es.length - k = 0 by omega, List.replicate_zero, List.append_nil]
      rw [e1] at ho
      have Ho := Lib.hid ho
      have Hb := Lib.hid hb
      clear ho hb e1
      go_wp2
      go_ret
      exact ⟨_, rfl, Ho.out, Hb.out⟩
end Go.Proofs.YtomnaabadohecaaGreat
namespace Go.Proofs.YtomnaabadohecaaGreat
open Go.RowKit
section
variable {ops : Array Oper} {rest : List Oper} {o : Oper} {a : Act} {Q : Exit → Act → World → Prop}
theorem mk_rows (w : World) (hg : o.guard = none) (l c : Operand) (hop : o.op = Op.makeSlice 41 l c) (n : Nat) (hl : a.eval l = .int .i64 (n : Int)) (hc : a.eval c = .int .i64 (n : Int)) (hn : n ≤ 1048576)
    (hK : ∀ w', OwnEE w' w.heap.size (.slice (some ⟨w.heap.size, 0, none⟩) n n) (List.replicate n []) [w.heap.size] → Below w.heap.size w w' → wpList Tryz.prog ops Q rest (a.put o.dst (.slice (some ⟨w.heap.size, 0, none⟩) n n)) w') : wpList Tryz.prog ops Q (o :: rest) a w := by
  obtain ⟨i0, hi, hz0, hz1, hz2⟩ := info_parts es_info
  refine wpList_plain hg fun K hK' => ?_
  have hr := run_make (P := Tryz.prog) w 41 112 i0 (.slice none 0 0) Tryz.underlying41 hi hz0 .i64 .i64 n n (by omega) (Int.le_refl _) (by rw [hz2]; omega) (by omega)
  rw [hz1] at hr
  simp only [Int.toNat_natCast] at hr
  rw [show (Value.slice none 0 0).cells = #[Value.slice none 0 0] from rfl, made_rep] at hr
  unfold Oper.wp
  simp only [execOp, hop, hl, hc, Sem.run_bind, hr, Result.andThen_ok, Sem.run_pure]
  refine hK' _ _ (hK _ ?_ (below_alloc _ _))
  have := OwnRows.made (R := OwnE) (e := 112) n (by simp [maxLen]; omega) ownE_nil w
  rw [List.toArray_replicate] at this
  exact this
end
set_option maxHeartbeats 2000000 in
theorem toEndSS_any (v : Value) (ess : List (List (Int × Int))) (w : World) (h : EndSS w v ess) (hl : szEE ess ≤ 1048576) :
    Calls Tryz.prog 68 #[v] w fun e w' => ∃ g S, e = .returned (.slice (some ⟨g, 0, none⟩) ess.length ess.length) ∧ OwnEE w' w.heap.size (.slice (some ⟨g, 0, none⟩) ess.length ess.length) ess S ∧ Below w.heap.size w w' := by
  obtain ⟨A, c, rfl, hlc, hm, hA⟩ := h
  unfold maxLen at hm
  have HA := Lib.hid hA
  clear hA
  have hl1 : ess.length ≤ 1048576 := by unfold szEE at hl; omega
  have Hl := Lib.hid hl
  clear hl
  go_enter Tryz.func68, Tryz.ntmps68
  go_wp2_with (at_make; refine mk_rows _ rfl _ _ rfl ess.length rfl rfl hl1 ?_; intro w1 ho1 hb1)
  go_loopw [4] (fun i wr => ∃ (k : Nat) (S : List Nat), k ≤ ess.length ∧ i = .int .i64 k ∧ OwnEE wr w.heap.size (.slice (some ⟨w.heap.size, 0, none⟩) ess.length ess.length) (ess.take k ++ List.replicate (ess.length - k) []) S ∧ Below w.heap.size w wr) (fun i _ => ess.length - (intOf i).toNat)
  case atStart => exact ⟨0, _, Nat.zero_le _, rfl, by simpa using ho1, hb1⟩
  case round =>
    obtain ⟨k, S, hk, rfl, ho, hb⟩ := hrel
    clear ho1 hb1
    by_cases hlt : k < ess.length
    · obtain ⟨x, hx⟩ := getx ess k hlt
      obtain ⟨b, off, u, rfl, hc1, hu⟩ := HA.out k x hx
      have k1 := bc hb hc1
      have Hu := Lib.hid (hu.keep hb)
      have Ho := Lib.hid ho
      have Hb := Lib.hid hb
      have Hx := Lib.hid hx
      have Hxl : Hid (x.length ≤ 1048576) := by
        have h1 := szRows_snoc hx
        have h2 := szRows_le ess (k + 1)
        have h3 := Hl.out
        unfold szEE at h3
        exact show _ ≤ _ by omega
      clear hx hc1 ho hb hu
      go_wp2_with fail
      refine (toEndS_any _ x _ Hu.out Hxl.out).mono ?_
      rintro e w2 ⟨g, rfl, hr2, hb2⟩
      have ho2 := lawEE.keep Ho.out hb2
      obtain ⟨y, hy⟩ := getx (ess.take k ++ List.replicate (ess.length - k) []) k (by simp; omega)
      obtain ⟨_, _, y1, f1, _⟩ := OwnRows.at_ ho2 hy
      have hS := lawEE.range Ho.out
      have hg2 := (lawE.range hr2 g (by simp)).1
      obtain ⟨S3, ho3, _⟩ := OwnRows.store lawE ho2 k (lawE.mono hr2 Hb.out.size) (fun j hj hjS => by simp at hj; subst hj; have := (hS _ hjS).2; omega)
      rw [set_fill [] ess k x Hx.out] at ho3
      have Ho3 := Lib.hid ho3
      have Hb3 := Lib.hid ((Hb.out.trans (hb2.mono Hb.out.size)).setCell (p := ⟨w.heap.size, k, none⟩) (Nat.le_refl _) (.slice (some ⟨g, 0, none⟩) x.length x.length))
      clear ho2 hy ho3 hb2 hr2 hS
      go_wp2
      go_roundw
      case rel => exact ⟨k + 1, S3, by omega, by simp, Ho3.out, Hb3.out⟩
      case measure => simp [intOf]; omega
    · have e1 : ess.take k ++ List.replicate (ess.length - k) ([] : List (Int × Int)) = ess := by rw [List.take_of_length_le (by omega), show ess.length - k = 0 by omega, List.replicate_zero, List.append_nil]
      rw [e1] at ho
      have Ho := Lib.hid ho
      have Hb := Lib.hid hb
      clear ho hb e1
      go_wp2
      go_ret
      exact ⟨_, S, rfl, Ho.out, Hb.out⟩
end Go.Proofs.YtomnaabadohecaaGreat
namespace Go.Proofs.YtomnaabadohecaaGreat
open Go.RowKit
theorem Box3.put0 {w : World} {b : Nat} {x y z u : Value} (h : Box3 w b x y z) : Box3 (w.setCell ⟨b, 0, none⟩ u) b u y z := by
  obtain ⟨r, h⟩ := h
  exact ⟨r, by simp [World.setCell, Array.getElem?_modify, h]⟩
theorem Box3.put1 {w : World} {b : Nat} {x y z u : Value} (h : Box3 w b x y z) : Box3 (w.setCell ⟨b, 1, none⟩ u) b x u z := by
  obtain ⟨r, h⟩ := h
  exact ⟨r, by simp [World.setCell, Array.getElem?_modify, h]⟩
set_option maxHeartbeats 4000000 in
theorem toNetwork_any (ve vi vn : Value) (n : Net) (w : World) (h : NetIn w ve vi vn n) (hl : szNet n ≤ 1048576) : Calls Tryz.prog 14 #[.agg #[ve, vi, vn]] w (NewNet w n) := by
  have hl1 : szEE n.ends ≤ 1048576 := by unfold szNet at hl; omega
  have hl2 : n.ids.length ≤ 17592186044416 := by unfold szNet at hl; omega
  have hl3 : n.inputs.length ≤ 17592186044416 := by unfold szNet at hl; omega
  obtain ⟨A1, c1, hve, _⟩ := id h.1
  obtain ⟨A2, c2, hvi, _⟩ := id h.2.1
  obtain ⟨A3, c3, hvn, _⟩ := id h.2.2
  subst hve hvi hvn
  obtain ⟨wa, hwa⟩ : ∃ wa, wa = ((w.alloc (.cells #[.slice A1 n.ends.length c1, .slice A2 n.ids.length c2, .slice A3 n.inputs.length c3] 29)).alloc (.cells #[.slice none 0 0, .slice none 0 0, .slice none 0 0] 43)).alloc (.cells #[.slice none 0 0, .slice none 0 0, .slice none 0 0] 43) := ⟨_, rfl⟩
  have hba : Below w.heap.size w wa := by rw [hwa]; exact below3 _ _ _ _
  have hsa : wa.heap.size = w.heap.size + 3 := by rw [hwa]; simp
  have b1 : Box3 wa w.heap.size (.slice A1 n.ends.length c1) (.slice A2 n.ids.length c2) (.slice A3 n.inputs.length c3) := by rw [hwa]; exact ((Box3.new _ _ _ _ _).alloc _).alloc _
  have b2 : Box3 wa (w.heap.size + 1) (.slice none 0 0) (.slice none 0 0) (.slice none 0 0) := by
    rw [hwa]
    have := (Box3.new (w.alloc (.cells #[.slice A1 n.ends.length c1, .slice A2 n.ids.length c2, .slice A3 n.inputs.length c3] 29)) (.slice none 0 0) (.slice none 0 0) (.slice none 0 0) 43).alloc (.cells #[.slice none 0 0, .slice none 0 0, .slice none 0 0] 43)
    simpa using this
  have b3 : Box3 wa (w.heap.size + 2) (.slice none 0 0) (.slice none 0 0) (.slice none 0 0) := by
    rw [hwa]
    have := Box3.new ((w.alloc (.cells #[.slice A1 n.ends.length c1, .slice A2 n.ids.length c2, .slice A3 n.inputs.length c3] 29)).alloc (.cells #[.slice none 0 0, .slice none 0 0, .slice none 0 0] 43)) (.slice none 0 0) (.slice none 0 0) (.slice none 0 0) 43
    simpa using this
  have hn := h.keep hba
  have H1 := Lib.hid hn
  rw [hwa] at H1
  have Ha := Lib.hid hwa
  have Hba := Lib.hid hba
  have B1 := Lib.hid b1
  have B2 := Lib.hid b2
  have B3 := Lib.hid b3
  have Hn := Lib.hid hn
  have H0 := Lib.hid h
  clear hwa hba b1 b2 b3 hn h hl
  go_enter Tryz.func14, Tryz.ntmps14
  go_wp2_with fail
  refine (toEndSS_any _ n.ends _ (by exact H1.out.1) hl1).mono ?_
  rw [← Ha.out]
  rintro e w1 ⟨g, S1, rfl, ho1, hb1⟩
  have hs1 := hb1.size
  obtain ⟨W1, hW1⟩ : ∃ W1, W1 = w1.setCell ⟨w.heap.size + 2, 0, none⟩ (.slice (some ⟨g, 0, none⟩) n.ends.length n.ends.length) := ⟨_, rfl⟩
  have b1 : Box3 W1 w.heap.size (.slice A1 n.ends.length c1) (.slice A2 n.ids.length c2) (.slice A3 n.inputs.length c3) := by rw [hW1]; exact (B1.out.below hb1 (by omega)).set (by simp)
  have b2 : Box3 W1 (w.heap.size + 1) (.slice none 0 0) (.slice none 0 0) (.slice none 0 0) := by rw [hW1]; exact (B2.out.below hb1 (by omega)).set (by simp)
  have b3 : Box3 W1 (w.heap.size + 2) (.slice (some ⟨g, 0, none⟩) n.ends.length n.ends.length) (.slice none 0 0) (.slice none 0 0) := by rw [hW1]; exact (B3.out.below hb1 (by omega)).put0
  obtain ⟨q0, q1, q2, f0, f1, f2⟩ := (B3.out.below hb1 (by omega)).cells
  obtain ⟨p0, p1, p2, _⟩ := b1.cells
  rw [hW1] at p1
  go_wp2_with fail
  have hB1 : Below w.heap.size w W1 := by rw [hW1]; exact (Hba.out.trans (hb1.mono (by omega))).setCell (by simp) _
  have HB1 := Lib.hid hB1
  have HI : Hid (IntS W1 (.slice A2 n.ids.length c2) n.ids) := H0.out.2.1.keep hB1
  have HO1 : Hid (OwnEE W1 wa.heap.size (.slice (some ⟨g, 0, none⟩) n.ends.length n.ends.length) n.ends S1) := by
    rw [hW1]
    exact lawEE.stable ho1 (fun j hj => Below.heap_setCell _ _ _ _ (by have := (lawEE.range ho1 j hj).1; show j ≠ w.heap.size + 2; omega))
  have X1 := Lib.hid b1
  have X2 := Lib.hid b2
  have X3 := Lib.hid b3
  have HW1 := Lib.hid hW1
  have hsW1 : wa.heap.size ≤ W1.heap.size := by rw [hW1]; simpa using hs1
  clear hB1 b1 b2 b3 p0 p1 p2 q0 q1 q2 f0 f1 f2 ho1 hb1 hW1
  refine (toIntS_any _ n.ids _ (by rw [← HW1.out]; exact HI.out) hl2).mono ?_
  rw [← HW1.out]
  rintro e w2 ⟨u2, rfl, ho2, hb2⟩
  have hs2 := hb2.size
  obtain ⟨D2, d2, hu2, _⟩ := id ho2.ints
  subst hu2
  obtain ⟨W2, hW2⟩ : ∃ W2, W2 = w2.setCell ⟨w.heap.size + 2, 1, none⟩ (.slice D2 n.ids.length d2) := ⟨_, rfl⟩
  have b1 : Box3 W2 w.heap.size (.slice A1 n.ends.length c1) (.slice A2 n.ids.length c2) (.slice A3 n.inputs.length c3) := by rw [hW2]; exact (X1.out.below hb2 (by omega)).set (by simp)
  have b2 : Box3 W2 (w.heap.size + 1) (.slice none 0 0) (.slice none 0 0) (.slice none 0 0) := by rw [hW2]; exact (X2.out.below hb2 (by omega)).set (by simp)
  have b3 : Box3 W2 (w.heap.size + 2) (.slice (some ⟨g, 0, none⟩) n.ends.length n.ends.length) (.slice D2 n.ids.length d2) (.slice none 0 0) := by rw [hW2]; exact (X3.out.below hb2 (by omega)).put1
  obtain ⟨q0, q1, q2, f0, f1, f2⟩ := (X3.out.below hb2 (by omega)).cells
  obtain ⟨p0, p1, p2, _⟩ := b1.cells
  rw [hW2] at p2
  go_wp2_with fail
  have hB2 : Below w.heap.size w W2 := by rw [hW2]; exact (HB1.out.trans (hb2.mono (by omega))).setCell (by simp) _
  have HB2 := Lib.hid hB2
  have HJ : Hid (IntS W2 (.slice A3 n.inputs.length c3) n.inputs) := H0.out.2.2.keep hB2
  have HO2 : Hid (OwnEE W2 wa.heap.size (.slice (some ⟨g, 0, none⟩) n.ends.length n.ends.length) n.ends S1) := by
    rw [hW2]
    have := lawEE.keep HO1.out hb2
    exact lawEE.stable this (fun j hj => Below.heap_setCell _ _ _ _ (by have := (lawEE.range this j hj).1; show j ≠ w.heap.size + 2; omega))
  have HU2 : Hid (Own W2 W1.heap.size (.slice D2 n.ids.length d2) n.ids) := by
    rw [hW2]
    exact ownsRow_stable ho2 (fun j hj => Below.heap_setCell _ _ _ _ (by have := (World.ownsRow.lt ho2 j (by simpa using hj)).1; show j ≠ w.heap.size + 2; omega))
  have hr1 : Hid (∀ j ∈ S1, j < W1.heap.size) := fun j hj => (lawEE.range HO1.out j hj).2
  have Y2 := Lib.hid b2
  have Y3 := Lib.hid b3
  have HW2 := Lib.hid hW2
  have hsW2 : W1.heap.size ≤ W2.heap.size := by rw [hW2]; simpa using hs2
  clear hB2 b1 b2 b3 p0 p1 p2 q0 q1 q2 f0 f1 f2 ho2 hb2 hW2
  refine (toIntS_any _ n.inputs _ (by rw [← HW2.out]; exact HJ.out) hl3).mono ?_
  rw [← HW2.out]
  rintro e w3 ⟨u3, rfl, ho3, hb3⟩
  have hs3 := hb3.size
  obtain ⟨D3, d3, hu3, _⟩ := id ho3.ints
  subst hu3
  obtain ⟨q0, q1, q2, f0, f1, f2⟩ := (Y3.out.below hb3 (by omega)).cells
  obtain ⟨p0, p1, p2, g0, g1, g2⟩ := (Y2.out.below hb3 (by omega)).cells
  have hfin : Hid (∀ t x y z, (∃ S, OwnNet ((((w3.setCell ⟨w.heap.size + 2, 2, none⟩ t).setCell ⟨w.heap.size + 1, 0, none⟩ x).setCell ⟨w.heap.size + 1, 1, none⟩ y).setCell ⟨w.heap.size + 1, 2, none⟩ z) w.heap.size (.slice (some ⟨g, 0, none⟩) n.ends.length n.ends.length) (.slice D2 n.ids.length d2) (.slice D3 n.inputs.length d3) n S) ∧ Below w.heap.size w ((((w3.setCell ⟨w.heap.size + 2, 2, none⟩ t).setCell ⟨w.heap.size + 1, 0, none⟩ x).setCell ⟨w.heap.size + 1, 1, none⟩ y).setCell ⟨w.heap.size + 1, 2, none⟩ z)) := fun t x y z => by
    have hne : ∀ j, wa.heap.size ≤ j → ((((w3.setCell ⟨w.heap.size + 2, 2, none⟩ t).setCell ⟨w.heap.size + 1, 0, none⟩ x).setCell ⟨w.heap.size + 1, 1, none⟩ y).setCell ⟨w.heap.size + 1, 2, none⟩ z).heap[j]? = w3.heap[j]? := fun j hj => by
      rw [Below.heap_setCell _ _ _ _ (by show j ≠ w.heap.size + 1; omega), Below.heap_setCell _ _ _ _ (by show j ≠ w.heap.size + 1; omega), Below.heap_setCell _ _ _ _ (by show j ≠ w.heap.size + 1; omega), Below.heap_setCell _ _ _ _ (by show j ≠ w.heap.size + 2; omega)]
    have k1 := lawEE.keep HO2.out hb3
    have k2 := HU2.out.keep hb3
    refine ⟨⟨_, S1, _, _, lawEE.mono (lawEE.stable k1 fun j hj => hne j (lawEE.range k1 j hj).1) (by omega), ⟨Own.mono (base := W1.heap.size) (ownsRow_stable k2 fun j hj => hne j (by have := (World.ownsRow.lt k2 j (by simpa using hj)).1; omega)) (by omega), rfl⟩, ⟨Own.mono (base := W2.heap.size) (ownsRow_stable ho3 fun j hj => hne j (by have := (World.ownsRow.lt ho3 j (by simpa using hj)).1; omega)) (by omega), rfl⟩, rfl, ?_⟩, ((((HB2.out.trans (hb3.mono (by omega))).setCell (by simp) _).setCell (by simp) _).setCell (by simp) _).setCell (by simp) _⟩
    have i2 : ∀ j, (Value.slice D2 n.ids.length d2).ownBlock = some j → W1.heap.size ≤ j ∧ j < W2.heap.size := fun j hj => ⟨(World.ownsRow.lt HU2.out j hj).1, (World.ownsRow.lt HU2.out j hj).2⟩
    have i3 : ∀ j, (Value.slice D3 n.inputs.length d3).ownBlock = some j → W2.heap.size ≤ j := fun j hj => (World.ownsRow.lt ho3 j hj).1
    rw [List.nodup_append, List.nodup_append]
    refine ⟨lawEE.nodup k1, ⟨?_, ?_, fun a ha b hb hab => ?_⟩, fun a ha b hb hab => ?_⟩
    · cases (Value.slice D2 n.ids.length d2).ownBlock <;> simp
    · cases (Value.slice D3 n.inputs.length d3).ownBlock <;> simp
    · subst hab
      have := i2 a (by simpa using ha)
      have := i3 a (by simpa using hb)
      omega
    · subst hab
      have h1 := hr1.out a ha
      rcases List.mem_append.1 hb with h | h
      · have := i2 a (by simpa using h)
        omega
      · have := i3 a (by simpa using h)
        omega
  clear ho3 hb3
  go_wp2
  refine bodyPost_ret (v := .agg #[.slice (some ⟨g, 0, none⟩) n.ends.length n.ends.length, .slice D2 n.ids.length d2, .slice D3 n.inputs.length d3]) (by simp [results, Tryz.results14, go_sem, *]) rfl ?_
  exact (hfin.out _ _ _ _).1.elim fun S hS => ⟨_, _, _, S, rfl, hS, (hfin.out _ _ _ _).2⟩
end Go.Proofs.YtomnaabadohecaaGreat
namespace Go.Proofs.YtomnaabadohecaaGreat
open Go Go.RowKit
@[simp ↓] theorem run_neq_end (a b c d : Int) (w : World) : (binOp .neq 114 (.agg #[.int .i64 a, .int .i64 b]) (.agg #[.int .i64 c, .int .i64 d])).run Tryz.prog w = .ok (.bool (!eqE (a, b) (c, d))) w := by
  go_simp
  by_cases f1 : a = c
  · by_cases f2 : b = d
    · simp [f1, f2, eqE]
    · simp [f1, f2, eqE]
  · simp [f1, eqE]
@[simp ↓] theorem run_eql_end (a b c d : Int) (w : World) : (binOp .eql 114 (.agg #[.int .i64 a, .int .i64 b]) (.agg #[.int .i64 c, .int .i64 d])).run Tryz.prog w = .ok (.bool (eqE (a, b) (c, d))) w := by
  go_simp
  by_cases f1 : a = c
  · by_cases f2 : b = d
    · simp [f1, f2, eqE]
    · simp [f1, f2, eqE]
  · simp [f1, eqE]
theorem NetIn.es {w : World} {a b c : Value} {n : Net} (h : NetIn w a b c n) : EndSS w a n.ends := h.1
theorem NetIn.is {w : World} {a b c : Value} {n : Net} (h : NetIn w a b c n) : IntS w b n.ids := h.2.1
theorem NetIn.ns {w : World} {a b c : Value} {n : Net} (h : NetIn w a b c n) : IntS w c n.inputs := h.2.2
theorem wr64 (z : Int) (h : -9223372036854775808 ≤ z) (h2 : z ≤ 9223372036854775807) : IntKind.i64.wrap z = z := IntWalk.i64_in z ⟨h, h2⟩
end Go.Proofs.YtomnaabadohecaaGreat
namespace Go.Proofs.YtomnaabadohecaaGreat
open Go.RowKit
theorem cntEE_sz (ess : List (List (Int × Int))) : cntEE ess ≤ 2 * szRows ess := by
  induction ess with
  | nil => simp [cntEE]
  | cons a r ih => simp only [cntEE, szRows, List.map_cons, List.sum_cons] at *; omega
theorem cnt_sz {n : Net} (h : szNet n ≤ 1048576) : 1 + cntNet n ≤ 4194304 := by
  have := cntEE_sz n.ends
  unfold szNet szEE at h
  unfold cntNet
  omega
end Go.Proofs.YtomnaabadohecaaGreat
namespace Go.Proofs.YtomnaabadohecaaGreat
open Go.RowKit
/-! lists of lists of integers: read, sized, copied, compared, marked, held -/
def IntSS (w : World) (v : Value) (xss : List (List Int)) : Prop :=
  ∃ (A : Option Addr) (c : Nat), v = .slice A xss.length c ∧ xss.length ≤ c ∧ c ≤ maxLen ∧
    (∀ k xs, xss[k]? = some xs → ∃ b off u, A = some ⟨b, off, none⟩ ∧ w.cell? ⟨b, off + k, none⟩ = some u ∧ IntS w u xs)
theorem IntSS.keep {w w' : World} {v : Value} {xs : List (List Int)} (h : IntSS w v xs) (hb : Below w.heap.size w w') : IntSS w' v xs := by
  obtain ⟨A, c, hv, hc, hm, hA⟩ := h
  refine ⟨A, c, hv, hc, hm, fun k x hk => ?_⟩
  obtain ⟨b, off, u, hA', h1, h2⟩ := hA k x hk
  exact ⟨b, off, u, hA', bc hb h1, h2.keep hb⟩
def OwnII : World → Nat → Value → List (List Int) → List Nat → Prop := OwnRows 24 OwnI
theorem lawII : RowLaw OwnII := rows_law _ lawI
theorem OwnI.read {w : World} {base : Nat} {v : Value} {xs : List Int} {S : List Nat} (h : OwnI w base v xs S) : IntS w v xs := h.1.ints
theorem OwnII.read {w : World} {base : Nat} {v : Value} {ess : List (List Int)} {S : List Nat} (h : OwnII w base v ess S) : IntSS w v ess := by
  obtain ⟨vs, Ss, h1, h2, h3, h4, h5⟩ := h
  rcases ownsRow_cases h1 with ⟨rfl, h0⟩ | ⟨g, c, rfl, hb, hg, hc, hm⟩
  · obtain rfl : ess = [] := List.eq_nil_of_length_eq_zero h0
    exact ⟨none, 0, rfl, Nat.le_refl _, Nat.zero_le _, fun k x hk => by simp at hk⟩
  · have hvl : vs.length = ess.length := by simpa using h1.1
    refine ⟨_, c, rfl, hc, hm, fun k x hk => ?_⟩
    have hlt := lt_of_get hk
    obtain ⟨u, hu⟩ := getx vs k (by omega)
    obtain ⟨T, hT⟩ := getx Ss k (by omega)
    exact ⟨g, 0, u, rfl, by rw [Nat.zero_add, h1.cellAt (cap := c) _ (by omega)]; exact hu, OwnI.read (h3 k u x T hu hk hT)⟩
def szR (ess : List (List Int)) : Nat := (ess.map List.length).sum
theorem szR_snoc {ess : List (List Int)} {k : Nat} {es : List Int} (h : ess[k]? = some es) : szR (ess.take (k + 1)) = szR (ess.take k) + es.length := by
  unfold szR
  rw [List.take_add_one, h]; simp
theorem szR_le (ess : List (List Int)) (k : Nat) : szR (ess.take k) ≤ szR ess := by
  unfold szR
  conv => rhs; rw [← List.take_append_drop k ess]
  rw [List.map_append, List.sum_append]; omega
def szII (ess : List (List Int)) : Nat := ess.length + szR ess
set_option maxHeartbeats 2000000 in
theorem szIntSS_any (v : Value) (ess : List (List Int)) (l : Int) (hl : 0 ≤ l) (hl2 : l ≤ 1048576) (w : World) (h : IntSS w v ess) : Calls Tryz.prog 41 #[v, .int .i64 l] w fun e w' => e = .returned (.int .i64 (left l (szII ess))) ∧ w = w' := by
  obtain ⟨A, c, rfl, hlc, hm, hA⟩ := h
  unfold maxLen at hm
  have HA := Lib.hid hA
  clear hA
  by_cases h : l - ess.length < 0
  · have hr := Lib.hid (left_neg (m := szII ess) h (by unfold szII; omega))
    go_enter Tryz.func41, Tryz.ntmps41
    go_wp2
    go_ret
    exact ⟨ret_int hr.out.symm, rfl⟩
  · go_enter Tryz.func41, Tryz.ntmps41
    go_wp2
    go_loop [1, 5] (fun t i => ∃ k : Nat, k ≤ ess.length ∧ i = .int .i64 k ∧ t = .int .i64 (l - ess.length - szR (ess.take k)) ∧ 0 ≤ l - ess.length - szR (ess.take k)) (fun _ i => ess.length - (intOf i).toNat)
    case atStart => exact ⟨0, Nat.zero_le _, rfl, by simp [szR], by simp [szR]; omega⟩
    case round =>
      obtain ⟨k, hk, rfl, rfl, hge⟩ := hrel
      obtain ⟨t, ht⟩ : ∃ t, t = l - ess.length - szR (ess.take k) := ⟨_, rfl⟩
      rw [← ht] at hge ⊢
      by_cases hlt : k < ess.length
      · obtain ⟨es, hes⟩ := getx ess k hlt
        obtain ⟨b, off, u, rfl, hcell, hu⟩ := HA.out k es hes
        have Hu := Lib.hid hu
        have hs := szR_snoc hes
        have ht2 : t ≤ 1048576 := by omega
        by_cases hneg : t - es.length < 0
        · have hr := Lib.hid (show left l (szII ess) = -1 from left_neg (n := ess.length + szR (ess.take (k + 1))) (by omega) (by have := szR_le ess (k + 1); unfold szII; omega))
          have hlf : left t es.length = -1 := by unfold left; rw [if_pos hneg]
          have Ht := Lib.hid ht
          clear ht hs hu hes
          go_wp2_with fail
          refine (szIntS_any _ es t hge ht2 _ Hu.out).mono ?_
          rw [hlf]
          rintro e w' ⟨rfl, rfl⟩
          go_wp2
          go_ret
          exact ⟨ret_int hr.out.symm, rfl⟩
        · have hlf : left t es.length = t - es.length := left_pos hneg
          have Ht := Lib.hid ht
          have Hs := Lib.hid hs
          clear ht hs hu hes
          go_wp2_with fail
          refine (szIntS_any _ es t hge ht2 _ Hu.out).mono ?_
          rw [hlf]
          rintro e w' ⟨rfl, rfl⟩
          go_wp2
          go_round
          case rel => exact ⟨k + 1, by omega, by simp, by have := Ht.out; have := Hs.out; congr 1; omega, by have := Ht.out; have := Hs.out; omega⟩
          case measure => simp [intOf]; omega
      · obtain rfl : k = ess.length := by omega
        have hr := Lib.hid (show left l (szII ess) = t by rw [left_pos (by rw [List.take_length] at ht; unfold szII; omega), ht, List.take_length]; unfold szII; omega)
        clear ht
        go_wp2
        go_ret
        exact ⟨ret_int hr.out.symm, rfl⟩
theorem rowI_info : (Tryz.prog.info? 24).map (fun i => (i.zero, i.size, i.bytes)) = some (some (.slice none 0 0), 1, 24) := by kernel_rfl
section
variable {ops : Array Oper} {rest : List Oper} {o : Oper} {a : Act} {Q : Exit → Act → World → Prop}
theorem mk_rowsI (w : World) (hg : o.guard = none) (l c : Operand) (hop : o.op = Op.makeSlice 22 l c) (n : Nat) (hl : a.eval l = .int .i64 (n : Int)) (hc : a.eval c = .int .i64 (n : Int)) (hn : n ≤ 1048576)
    (hK : ∀ w', OwnII w' w.heap.size (.slice (some ⟨w.heap.size, 0, none⟩) n n) (List.replicate n []) [w.heap.size] → Below w.heap.size w w' → wpList Tryz.prog ops Q rest (a.put o.dst (.slice (some ⟨w.heap.size, 0, none⟩) n n)) w') : wpList Tryz.prog ops Q (o :: rest) a w := by
  obtain ⟨i0, hi, hz0, hz1, hz2⟩ := info_parts rowI_info
  refine wpList_plain hg fun K hK' => ?_
  have hr := run_make (P := Tryz.prog) w 22 24 i0 (.slice none 0 0) Tryz.underlying22 hi hz0 .i64 .i64 n n (by omega) (Int.le_refl _) (by rw [hz2]; omega) (by omega)
  rw [hz1] at hr
  simp only [Int.toNat_natCast] at hr
  rw [show (Value.slice none 0 0).cells = #[Value.slice none 0 0] from rfl, made_rep] at hr
  unfold Oper.wp
  simp only [execOp, hop, hl, hc, Sem.run_bind, hr, Result.andThen_ok, Sem.run_pure]
  refine hK' _ _ (hK _ ?_ (below_alloc _ _))
  have := OwnRows.made (R := OwnI) (e := 24) n (by simp [maxLen]; omega) ownI_nil w
  rw [List.toArray_replicate] at this
  exact this
end
set_option maxHeartbeats 2000000 in
theorem toIntSS_any (v : Value) (ess : List (List Int)) (w : World) (h : IntSS w v ess) (hl : szII ess ≤ 1048576) :
    Calls Tryz.prog 43 #[v] w fun e w' => ∃ g S, e = .returned (.slice (some ⟨g, 0, none⟩) ess.length ess.length) ∧ OwnII w' w.heap.size (.slice (some ⟨g, 0, none⟩) ess.length ess.length) ess S ∧ Below w.heap.size w w' := by
  obtain ⟨A, c, rfl, hlc, hm, hA⟩ := h
  unfold maxLen at hm
  have HA := Lib.hid hA
  clear hA
  have hl1 : ess.length ≤ 1048576 := by unfold szII at hl; omega
  have Hl := Lib.hid hl
  clear hl
  go_enter Tryz.func43, Tryz.ntmps43
  go_wp2_with (at_make; refine mk_rowsI _ rfl _ _ rfl ess.length rfl rfl hl1 ?_; intro w1 ho1 hb1)
  go_loopw [4] (fun i wr => ∃ (k : Nat) (S : List Nat), k ≤ ess.length ∧ i = .int .i64 k ∧ OwnII wr w.heap.size (.slice (some ⟨w.heap.size, 0, none⟩) ess.length ess.length) (ess.take k ++ List.replicate (ess.length - k) []) S ∧ Below w.heap.size w wr) (fun i _ => ess.length - (intOf i).toNat)
  case atStart => exact ⟨0, _, Nat.zero_le _, rfl, by simpa using ho1, hb1⟩
  case round =>
    obtain ⟨k, S, hk, rfl, ho, hb⟩ := hrel
    clear ho1 hb1
    by_cases hlt : k < ess.length
    · obtain ⟨x, hx⟩ := getx ess k hlt
      obtain ⟨b, off, u, rfl, hc1, hu⟩ := HA.out k x hx
      have k1 := bc hb hc1
      have Hu := Lib.hid (hu.keep hb)
      have Ho := Lib.hid ho
      have Hb := Lib.hid hb
      have Hx := Lib.hid hx
      have Hxl : Hid (x.length ≤ 17592186044416) := by
        have h1 := szR_snoc hx
        have h2 := szR_le ess (k + 1)
        have h3 := Hl.out
        unfold szII at h3
        exact show _ ≤ _ by omega
      clear hx hc1 ho hb hu
      go_wp2_with fail
      refine (toIntS_any _ x _ Hu.out Hxl.out).mono ?_
      rintro e w2 ⟨v2, rfl, hr2, hb2⟩
      have hI2 : OwnI w2 wr.heap.size v2 x v2.ownBlock.toList := ⟨hr2, rfl⟩
      have ho2 := lawII.keep Ho.out hb2
      obtain ⟨y, hy⟩ := getx (ess.take k ++ List.replicate (ess.length - k) []) k (by simp; omega)
      obtain ⟨_, _, y1, f1, _⟩ := OwnRows.at_ ho2 hy
      have hS := lawII.range Ho.out
      obtain ⟨S3, ho3, _⟩ := OwnRows.store lawI ho2 k (lawI.mono hI2 Hb.out.size) (fun j hj hjS => by have h1 := (lawI.range hI2 j hj).1; have := (hS _ hjS).2; omega)
      rw [set_fill [] ess k x Hx.out] at ho3
      have Ho3 := Lib.hid ho3
      have Hb3 := Lib.hid ((Hb.out.trans (hb2.mono Hb.out.size)).setCell (p := ⟨w.heap.size, k, none⟩) (Nat.le_refl _) v2)
      obtain ⟨B2, d2, rfl, _⟩ := id hr2.ints
      clear ho2 hy ho3 hb2 hr2 hS hI2
      go_wp2
      go_roundw
      case rel => exact ⟨k + 1, S3, by omega, by simp, Ho3.out, Hb3.out⟩
      case measure => simp [intOf]; omega
    · have e1 : ess.take k ++ List.replicate (ess.length - k) ([] : List Int) = ess := by rw [List.take_of_length_le (by omega), show ess.length - k = 0 by omega, List.replicate_zero, List.append_nil]
      rw [e1] at ho
      have Ho := Lib.hid ho
      have Hb := Lib.hid hb
      clear ho hb e1
      go_wp2
      go_ret
      exact ⟨_, S, rfl, Ho.out, Hb.out⟩
set_option maxHeartbeats 2000000 in
theorem eqIntSS_any (v u : Value) (xs ys : List (List Int)) (w : World) (h : IntSS w v xs) (h' : IntSS w u ys) :
    Calls Tryz.prog 45 #[v, u] w fun e w' => e = .returned (.bool (decide (xs = ys))) ∧ Below w.heap.size w w' := by
  obtain ⟨A, c, rfl, hlc, hm, hA⟩ := h
  obtain ⟨B, d, rfl, hld, hmd, hB⟩ := h'
  unfold maxLen at hm hmd
  have HA := Lib.hid hA
  have HB := Lib.hid hB
  clear hA hB
  by_cases hl : xs.length = ys.length
  · have Hl := Lib.hid hl
    have hl1 : xs.length ≤ ys.length := by omega
    have hl2 : ys.length ≤ xs.length := by omega
    have hb : ((xs.length : Int) != (ys.length : Int)) = false := by simp [hl]
    clear hl
    go_enter Tryz.func45, Tryz.ntmps45
    go_wp2
    go_loopw [5] (fun i wr => ∃ k : Nat, k ≤ xs.length ∧ i = .int .i64 k ∧ xs.take k = ys.take k ∧ Below w.heap.size w wr) (fun i _ => xs.length - (intOf i).toNat)
    case atStart => exact ⟨0, Nat.zero_le _, rfl, by simp, Below.refl _ _⟩
    case round =>
      obtain ⟨k, hk, rfl, heq, hbl⟩ := hrel
      have Heq := Lib.hid heq
      have Hbl := Lib.hid hbl
      clear heq hbl
      by_cases hlt : k < xs.length
      · have hlt2 : k < ys.length := by omega
        obtain ⟨x, hx⟩ := getx xs k hlt
        obtain ⟨y, hy⟩ := getx ys k hlt2
        obtain ⟨b, off, u1, rfl, hc1, hr1⟩ := HA.out k x hx
        obtain ⟨b', off', u2, rfl, hc2, hr2⟩ := HB.out k y hy
        have k1 := bc Hbl.out hc1
        have k2 := bc Hbl.out hc2
        have Hr1 := Lib.hid (hr1.keep Hbl.out)
        have Hr2 := Lib.hid (hr2.keep Hbl.out)
        obtain ⟨A1, z1, rfl, _⟩ := hr1
        obtain ⟨A2, z2, rfl, _⟩ := hr2
        clear hc1 hc2
        have Hx := Lib.hid hx
        have Hy := Lib.hid hy
        clear hx hy
        cases hxy : eqIs x y
        all_goals
          have Hxy := Lib.hid hxy
          clear hxy
          go_wp2
          go_region_held3 (fun w' => w'.cell? ⟨b, off + k, none⟩ = some (.slice A1 x.length z1) ∧ w'.cell? ⟨b', off' + k, none⟩ = some (.slice A2 y.length z2)) (first | exact ⟨k1, k2⟩ | exact ⟨bc hb1 k1, bc hb1 k2⟩)
            (first | (go_at_call 58; refine (eqIntS_b _ _ x y _ (by exact Hr1.out) (by exact Hr2.out)).mono ?_; rintro e w1 ⟨rfl, hb1⟩; rw [Hxy.out]))
          have Hb2 := Lib.hid (Hbl.out.drew.trans (hb1.mono (show w.heap.size ≤ wr.heap.size from Hbl.out.size)))
          clear hb1
          go_wp2
        · go_ret
          refine ⟨ret_false (decide_eq_false fun e => ?_), Hb2.out⟩
          have h1 := Hx.out
          rw [e, Hy.out] at h1
          have h2 := Hxy.out
          simp [eqIs] at h1 h2
          exact h2 h1.symm
        · go_roundw
          case rel => exact ⟨k + 1, by omega, by go_num, by rw [take_snoc Hx.out, take_snoc Hy.out, Heq.out, show x = y by simpa [eqIs] using Hxy.out], Hb2.out⟩
          case measure => simp [intOf]; omega
      · go_wp2
        go_ret
        exact ⟨ret_true (decide_eq_true (eq_of_takes Hl.out Heq.out hlt)), Hbl.out⟩
  · have hb : ((xs.length : Int) != (ys.length : Int)) = true := by simp; omega
    have Hl := Lib.hid hl
    clear hl
    go_enter Tryz.func45, Tryz.ntmps45
    go_wp2
    go_ret
    exact ⟨ret_false (decide_eq_false fun e => Hl.out (by rw [e])), Below.refl _ _⟩
-- the marks
def mkII : Nat → List (List Int) → List (List Int)
  | _, [] => []
  | k, es :: r => marks k es.length :: mkII (k + es.length) r
theorem mkII_append (k : Nat) (a b : List (List Int)) : mkII k (a ++ b) = mkII k a ++ mkII (k + szR a) b := by
  induction a generalizing k with
  | nil => simp [mkII, szR]
  | cons x a ih => simp [mkII, szR, ih, Nat.add_assoc]
theorem mkII_len (k : Nat) (a : List (List Int)) : (mkII k a).length = a.length := by
  induction a generalizing k with
  | nil => rfl
  | cons x a ih => simp [mkII, ih]
theorem mkII_set (a ess : List (List Int)) (j : Nat) (y : List Int) (hl : a.length = j) (h : j < ess.length) : (a ++ ess.drop j).set j y = (a ++ [y]) ++ ess.drop (j + 1) := by
  rw [List.set_append_right _ _ (by omega), hl, Nat.sub_self, List.drop_eq_getElem_cons h, List.set_cons_zero, List.append_assoc]
  rfl
set_option maxHeartbeats 1600000 in
theorem markIntSS_any (v : Value) (ess : List (List Int)) (k : Nat) (w : World) (base : Nat) (S : List Nat) (h : OwnII w base v ess S) (hl : k + szR ess ≤ 4611686018427387904) :
    Calls Tryz.prog 47 #[v, .int .i64 k] w fun e w' => e = .returned (.int .i64 ((k + szR ess : Nat) : Int)) ∧ OwnII w' base v (mkII k ess) S ∧ Only S w w' := by
  rcases (show _ ∨ _ by obtain ⟨vs, Ss, h1, _⟩ := h; exact ownsRow_cases h1) with ⟨rfl, h0⟩ | ⟨g, c, rfl, hb1, hb2, hb3, hb4⟩
  · obtain rfl : ess = [] := List.eq_nil_of_length_eq_zero h0
    go_enter Tryz.func47, Tryz.ntmps47
    go_wp2
    go_loop [1, 5] (fun m i => m = .int .i64 k ∧ i = .int .i64 0) (fun _ _ => 0)
    case atStart => exact ⟨rfl, rfl⟩
    case round =>
      obtain ⟨rfl, rfl⟩ := hrel
      go_wp2
      go_ret
      exact ⟨ret_int (by simp [szR]), h, Only.refl _ _⟩
  · have Ho := Lib.hid h
    clear h
    unfold maxLen at hb4
    go_enter Tryz.func47, Tryz.ntmps47
    go_wp2
    go_loopw [1, 5] (fun m i wr => ∃ j : Nat, j ≤ ess.length ∧ i = .int .i64 j ∧ m = .int .i64 ((k + szR (ess.take j) : Nat) : Int) ∧ OwnII wr base (.slice (some ⟨g, 0, none⟩) ess.length c) (mkII k (ess.take j) ++ ess.drop j) S ∧ Only S w wr) (fun _ i _ => ess.length - (intOf i).toNat)
    case atStart => exact ⟨0, Nat.zero_le _, rfl, by simp [szR], by simpa [mkII] using Ho.out, Only.refl _ _⟩
    case round =>
      obtain ⟨j, hj, rfl, rfl, ho, hg⟩ := hrel
      have hct := szR_le ess j
      by_cases hlt : j < ess.length
      · obtain ⟨es, hes⟩ := getx ess j hlt
        have hct2 := szR_le ess (j + 1)
        rw [szR_snoc hes] at hct2
        have hml : (mkII k (ess.take j)).length = j := by rw [mkII_len]; simp; omega
        have hy : (mkII k (ess.take j) ++ ess.drop j)[j]? = some es := by
          rw [List.getElem?_append_right (by omega), hml, Nat.sub_self, List.getElem?_drop]; simpa using hes
        obtain ⟨u, T, hc1, hR, hTS, hback⟩ := OwnRows.touch lawI ho hy
        have Hs := Lib.hid hback
        have HR := Lib.hid hR
        have HTS := Lib.hid hTS
        have Hg := Lib.hid hg
        have Hes := Lib.hid hes
        have Hml := Lib.hid hml
        obtain ⟨A1, n1, z1, rfl⟩ := lawI.one hR
        clear hy ho hg hR hback hes hml hTS
        obtain ⟨cn, hcn⟩ : ∃ cn, szR (ess.take j) = cn := ⟨_, rfl⟩
        rw [hcn] at hct2 ⊢
        have Hcn := Lib.hid hcn
        clear hcn hct
        go_wp2_with fail
        refine (markIntS_any _ es (k + cn) _ base (by exact HR.out.1) (by omega)).mono ?_
        rintro e w1 ⟨rfl, ho1, hon0⟩
        have hon : Only T wr w1 := by have := Only.of_grown hon0; exact HR.out.2 ▸ this
        have Hon := Lib.hid (Hg.out.trans (hon.mono HTS.out))
        have Hrow := Lib.hid (Hs.out _ w1 ⟨ho1, HR.out.2⟩ hon)
        clear ho1 hon hon0
        go_wp2
        go_roundw
        case rel =>
          refine ⟨j + 1, by omega, by go_num, ?_, ?_, Hon.out⟩
          · rw [szR_snoc Hes.out, Hcn.out]
            congr 1
            omega
          · rw [take_snoc Hes.out, mkII_append, Hcn.out]
            have := Hrow.out
            rw [mkII_set _ _ _ _ Hml.out hlt] at this
            exact this
        case measure => simp [intOf]; omega
      · obtain rfl : j = ess.length := by omega
        have Ho1 := Lib.hid ho
        have Hg := Lib.hid hg
        clear ho hg
        go_wp2
        go_ret
        exact ⟨ret_int (by simp), by have := Ho1.out; rwa [List.drop_length, List.append_nil, List.take_length] at this, Hg.out⟩
theorem heldIntSS_any (v : Value) (ess : List (List Int)) (k : Nat) (w : World) (h : IntSS w v (mkII k ess)) (hl : k + szR ess ≤ 4611686018427387904) :
    Calls Tryz.prog 48 #[v, .int .i64 k] w fun e w' => e = .returned (.int .i64 ((k + szR ess : Nat) : Int)) ∧ w = w' := by
  obtain ⟨A, c, rfl, hlc, hm, hA⟩ := h
  rw [mkII_len] at hlc ⊢
  unfold maxLen at hm
  have HA := Lib.hid hA
  clear hA
  go_enter Tryz.func48, Tryz.ntmps48
  go_wp2
  go_loop [1, 5] (fun m i => ∃ j : Nat, j ≤ ess.length ∧ i = .int .i64 j ∧ m = .int .i64 ((k + szR (ess.take j) : Nat) : Int)) (fun _ i => ess.length - (intOf i).toNat)
  case atStart => exact ⟨0, Nat.zero_le _, rfl, by simp [szR]⟩
  case round =>
    obtain ⟨j, hj, rfl, rfl⟩ := hrel
    by_cases hlt : j < ess.length
    · obtain ⟨es, hes⟩ := getx ess j hlt
      have hct2 := szR_le ess (j + 1)
      rw [szR_snoc hes] at hct2
      have hy : (mkII k ess)[j]? = some (marks (k + szR (ess.take j)) es.length) := by
        conv => lhs; rw [← List.take_append_drop j ess, mkII_append]
        rw [List.getElem?_append_right (by rw [mkII_len]; simp; omega), mkII_len]
        obtain ⟨hj', rfl⟩ := List.getElem?_eq_some_iff.1 hes
        rw [List.drop_eq_getElem_cons hj', List.length_take, Nat.min_eq_left (by omega), Nat.sub_self]
        rfl
      obtain ⟨b, off, u, rfl, hc1, hr⟩ := HA.out j _ hy
      have Hr := Lib.hid hr
      have Hes := Lib.hid hes
      obtain ⟨A1, z1, rfl, _⟩ := hr
      clear hy hes
      obtain ⟨cn, hcn⟩ : ∃ cn, szR (ess.take j) = cn := ⟨_, rfl⟩
      rw [hcn] at hct2 hc1 ⊢
      have Hcn := Lib.hid hcn
      have Hr2 := Lib.hid (show IntS w (Value.slice A1 (marks (k + cn) es.length).length z1) (marks (k + cn) es.length) by have := Hr.out; rwa [hcn] at this)
      clear hcn Hr
      go_wp2_with fail
      refine (heldIntS_any _ (k + cn) es.length _ (by exact Hr2.out) (by omega)).mono ?_
      rintro e w1 ⟨rfl, rfl⟩
      go_wp2
      go_round
      case rel =>
        refine ⟨j + 1, by omega, by go_num, ?_⟩
        rw [szR_snoc Hes.out, Hcn.out]
        congr 1
        omega
      case measure => simp [intOf]; omega
    · obtain rfl : j = ess.length := by omega
      go_wp2
      go_ret
      exact ⟨ret_int (by simp), rfl⟩
end Go.Proofs.YtomnaabadohecaaGreat
