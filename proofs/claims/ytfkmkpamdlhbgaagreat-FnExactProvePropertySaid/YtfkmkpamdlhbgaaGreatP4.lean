/- Parts of the proof: walks of functions and plain laws. -/
import Derived.Test.YtfkmkpamdlhbgaaGreatP3
import Derived.Test.YtfkmkpamdlhbgaaGreatP2
import Derived.Test.YtfkmkpamdlhbgaaGreatP0
namespace Go.Proofs.YtfkmkpamdlhbgaaGreat
open Go.RowKit
set_option maxHeartbeats 1000000 in
theorem toEnd_any (a b : Int) (w : World) : Calls Tryz.prog 139 #[.agg #[.int .i64 a, .int .i64 b]] w fun e w' => e = .returned (.agg #[.int .i64 a, .int .i64 b]) ∧ Below w.heap.size w w' := by
  go_enter Tryz.func139, Tryz.ntmps139
  go_wp2
  refine bodyPost_ret (v := .agg #[.int .i64 a, .int .i64 b]) (by simp [results, Tryz.results139, go_sem]) rfl ?_
  exact ⟨rfl, below3 _ _ _ _⟩
/-- what is left of a size -/
def left (l : Int) (n : Nat) : Int := if l - n < 0 then -1 else l - n
set_option maxHeartbeats 1000000 in
theorem szEndS_any (v : Value) (es : List (Int × Int)) (l : Int) (hl : 0 ≤ l) (hl2 : l ≤ 1048576) (w : World) (h : EndS w v es) : Calls Tryz.prog 81 #[v, .int .i64 l] w fun e w' => e = .returned (.int .i64 (left l es.length)) ∧ w = w' := by
  obtain ⟨A, c, rfl, hlc, hm, _⟩ := h
  unfold maxLen at hm
  by_cases h : l - es.length < 0
  · rw [show left l es.length = -1 by simp [left, h]]
    go_enter Tryz.func81, Tryz.ntmps81
    go_wp2
    go_ret
    exact ⟨rfl, rfl⟩
  · rw [show left l es.length = l - es.length by simp [left, h]]
    go_enter Tryz.func81, Tryz.ntmps81
    go_wp2
    go_ret
    exact ⟨rfl, rfl⟩
set_option maxHeartbeats 1000000 in
theorem szIntS_any (v : Value) (xs : List Int) (l : Int) (hl : 0 ≤ l) (hl2 : l ≤ 1048576) (w : World) (h : IntS w v xs) : Calls Tryz.prog 43 #[v, .int .i64 l] w fun e w' => e = .returned (.int .i64 (left l xs.length)) ∧ w = w' := by
  obtain ⟨A, c, rfl, hlc, hm, _⟩ := h
  unfold maxLen at hm
  by_cases h : l - xs.length < 0
  · rw [show left l xs.length = -1 by simp [left, h]]
    go_enter Tryz.func43, Tryz.ntmps43
    go_wp2
    go_ret
    exact ⟨rfl, rfl⟩
  · rw [show left l xs.length = l - xs.length by simp [left, h]]
    go_enter Tryz.func43, Tryz.ntmps43
    go_wp2
    go_ret
    exact ⟨rfl, rfl⟩
end Go.Proofs.YtfkmkpamdlhbgaaGreat
namespace Go.Proofs.YtfkmkpamdlhbgaaGreat
open Go.RowKit
def szRows (ess : List (List (Int × Int))) : Nat := (ess.map List.length).sum
theorem szRows_snoc {ess : List (List (Int × Int))} {k : Nat} {es : List (Int × Int)} (h : ess[k]? = some es) : szRows (ess.take (k + 1)) = szRows (ess.take k) + es.length := by
  unfold szRows
  rw [List.take_add_one, h]; simp
theorem szRows_le (ess : List (List (Int × Int))) (k : Nat) : szRows (ess.take k) ≤ szRows ess := by
  unfold szRows
  conv => rhs; rw [← List.take_append_drop k ess]
  rw [List.map_append, List.sum_append]; omega
def szEE (ess : List (List (Int × Int))) : Nat := ess.length + szRows ess
theorem left_neg {l : Int} {n m : Nat} (h : l - n < 0) (hm : n ≤ m) : left l m = -1 := by unfold left; rw [if_pos (by omega)]
theorem left_pos {l : Int} {n : Nat} (h : ¬ l - n < 0) : left l n = l - n := by unfold left; rw [if_neg h]
set_option maxHeartbeats 2000000 in
theorem szEndSS_any (v : Value) (ess : List (List (Int × Int))) (l : Int) (hl : 0 ≤ l) (hl2 : l ≤ 1048576) (w : World) (h : EndSS w v ess) : Calls Tryz.prog 42 #[v, .int .i64 l] w fun e w' => e = .returned (.int .i64 (left l (szEE ess))) ∧ w = w' := by
  obtain ⟨A, c, rfl, hlc, hm, hA⟩ := h
  unfold maxLen at hm
  have HA := Lib.hid hA
  clear hA
  by_cases h : l - ess.length < 0
  · have hr := Lib.hid (left_neg (m := szEE ess) h (by unfold szEE; omega))
    go_enter Tryz.func42, Tryz.ntmps42
    go_wp2
    go_ret
    exact ⟨ret_int hr.out.symm, rfl⟩
  · go_enter Tryz.func42, Tryz.ntmps42
    go_wp2
    go_loop [1, 5] (fun t i => ∃ k : Nat, k ≤ ess.length ∧ i = .int .i64 k ∧ t = .int .i64 (l - ess.length - szRows (ess.take k)) ∧ 0 ≤ l - ess.length - szRows (ess.take k)) (fun _ i => ess.length - (intOf i).toNat)
    case atStart => exact ⟨0, Nat.zero_le _, rfl, by simp [szRows], by simp [szRows]; omega⟩
    case round =>
      obtain ⟨k, hk, rfl, rfl, hge⟩ := hrel
      obtain ⟨t, ht⟩ : ∃ t, t = l - ess.length - szRows (ess.take k) := ⟨_, rfl⟩
      rw [← ht] at hge ⊢
      by_cases hlt : k < ess.length
      · obtain ⟨es, hes⟩ := getx ess k hlt
        obtain ⟨b, off, u, rfl, hcell, hu⟩ := HA.out k es hes
        have Hu := Lib.hid hu
        have hs := szRows_snoc hes
        have ht2 : t ≤ 1048576 := by omega
        by_cases hneg : t - es.length < 0
        · have hr := Lib.hid (show left l (szEE ess) = -1 from left_neg (n := ess.length + szRows (ess.take (k + 1))) (by omega) (by have := szRows_le ess (k + 1); unfold szEE; omega))
          have hlf : left t es.length = -1 := by unfold left; rw [if_pos hneg]
          have Ht := Lib.hid ht
          clear ht hs hu hes
          go_wp2_with fail
          refine (szEndS_any _ es t hge ht2 _ Hu.out).mono ?_
          rw [hlf]
          rintro e w' ⟨rfl, rfl⟩
          go_wp2
          go_ret
          exact ⟨ret_int hr.out.symm, rfl⟩
        · have hlf : left t es.length = t - es.length := left_pos hneg
          have Ht := Lib.hid ht
          have Hs := Lib.hid hs
          clear ht hs hu hes
          go_wp2_with fail
          refine (szEndS_any _ es t hge ht2 _ Hu.out).mono ?_
          rw [hlf]
          rintro e w' ⟨rfl, rfl⟩
          go_wp2
          go_round
          case rel => exact ⟨k + 1, by omega, by simp, by have := Ht.out; have := Hs.out; congr 1; omega, by have := Ht.out; have := Hs.out; omega⟩
          case measure => simp [intOf]; omega
      · obtain rfl : k = ess.length := by omega
        have hr := Lib.hid (show left l (szEE ess) = t by rw [left_pos (by rw [List.take_length] at ht; unfold szEE; omega), ht, List.take_length]; unfold szEE; omega)
        clear ht
        go_wp2
        go_ret
        exact ⟨ret_int hr.out.symm, rfl⟩
end Go.Proofs.YtfkmkpamdlhbgaaGreat
namespace Go.Proofs.YtfkmkpamdlhbgaaGreat
open Go.RowKit
def szNet (n : Net) : Nat := szEE n.ends + n.ids.length + n.inputs.length
set_option maxHeartbeats 2000000 in
theorem szNetwork_any (ve vi vn : Value) (n : Net) (l : Int) (hl : 0 ≤ l) (hl2 : l ≤ 1048576) (w : World) (h : NetIn w ve vi vn n) : Calls Tryz.prog 18 #[.agg #[ve, vi, vn], .int .i64 l] w fun e w' => e = .returned (.int .i64 (left l (szNet n))) ∧ Below w.heap.size w w' := by
  have hb0 : Below w.heap.size w (w.alloc (.cells #[ve, vi, vn] 47)) := below_alloc _ _
  obtain ⟨h1, h2, h3⟩ := h.keep hb0
  have H1 := Lib.hid h1
  have H2 := Lib.hid h2
  have H3 := Lib.hid h3
  have Hb0 := Lib.hid hb0
  obtain ⟨A1, z1, rfl, _⟩ := h1
  obtain ⟨A2, z2, rfl, _⟩ := h2
  obtain ⟨A3, z3, rfl, _⟩ := h3
  clear h hb0
  by_cases c1 : l - szEE n.ends < 0
  · have hr := Lib.hid (show left l (szNet n) = -1 from left_neg c1 (by unfold szNet; omega))
    have e1 : left l (szEE n.ends) = -1 := left_neg c1 (Nat.le_refl _)
    go_enter Tryz.func18, Tryz.ntmps18
    go_wp2_with fail
    refine (szEndSS_any _ n.ends l hl hl2 _ H1.out).mono ?_
    rw [e1]
    rintro e w' ⟨rfl, rfl⟩
    go_wp2
    go_ret
    exact ⟨ret_int hr.out.symm, Hb0.out⟩
  · have e1 : left l (szEE n.ends) = l - szEE n.ends := left_pos c1
    obtain ⟨t, ht⟩ : ∃ t, t = l - szEE n.ends := ⟨_, rfl⟩
    rw [← ht] at e1 c1
    have ht1 : 0 ≤ t := by omega
    have ht2 : t ≤ 1048576 := by omega
    by_cases c2 : t - n.ids.length < 0
    · have hr := Lib.hid (show left l (szNet n) = -1 from left_neg (n := szEE n.ends + n.ids.length) (by omega) (by unfold szNet; omega))
      have e2 : left t n.ids.length = -1 := left_neg c2 (Nat.le_refl _)
      have Ht := Lib.hid ht
      clear ht
      go_enter Tryz.func18, Tryz.ntmps18
      go_wp2_with fail
      refine (szEndSS_any _ n.ends l hl hl2 _ H1.out).mono ?_
      rw [e1]
      rintro e w' ⟨rfl, rfl⟩
      go_wp2_with fail
      refine (szIntS_any _ n.ids t ht1 ht2 _ H2.out).mono ?_
      rw [e2]
      rintro e w' ⟨rfl, rfl⟩
      go_wp2
      go_ret
      exact ⟨ret_int hr.out.symm, Hb0.out⟩
    · have e2 : left t n.ids.length = t - n.ids.length := left_pos c2
      obtain ⟨s, hs⟩ : ∃ s, s = t - n.ids.length := ⟨_, rfl⟩
      rw [← hs] at e2 c2
      have hs1 : 0 ≤ s := by omega
      have hs2 : s ≤ 1048576 := by omega
      obtain ⟨q, hq⟩ : ∃ q, q = left s n.inputs.length := ⟨_, rfl⟩
      have hr := Lib.hid (show left l (szNet n) = q by rw [hq]; unfold left szNet; split <;> split <;> omega)
      by_cases c3 : q < 0
      · have hq1 : q = -1 := by rw [hq]; unfold left; split <;> (unfold left at hq; split at hq <;> omega)
        have Ht := Lib.hid ht
        have Hs := Lib.hid hs
        have Hq := Lib.hid hq
        clear ht hs hq
        subst hq1
        go_enter Tryz.func18, Tryz.ntmps18
        go_wp2_with fail
        refine (szEndSS_any _ n.ends l hl hl2 _ H1.out).mono ?_
        rw [e1]
        rintro e w' ⟨rfl, rfl⟩
        go_wp2_with fail
        refine (szIntS_any _ n.ids t ht1 ht2 _ H2.out).mono ?_
        rw [e2]
        rintro e w' ⟨rfl, rfl⟩
        go_wp2_with fail
        refine (szIntS_any _ n.inputs s hs1 hs2 _ H3.out).mono ?_
        rw [← Hq.out]
        rintro e w' ⟨rfl, rfl⟩
        go_wp2
        go_ret
        exact ⟨ret_int hr.out.symm, Hb0.out⟩
      · have Ht := Lib.hid ht
        have Hs := Lib.hid hs
        have Hq := Lib.hid hq
        clear ht hs hq
        go_enter Tryz.func18, Tryz.ntmps18
        go_wp2_with fail
        refine (szEndSS_any _ n.ends l hl hl2 _ H1.out).mono ?_
        rw [e1]
        rintro e w' ⟨rfl, rfl⟩
        go_wp2_with fail
        refine (szIntS_any _ n.ids t ht1 ht2 _ H2.out).mono ?_
        rw [e2]
        rintro e w' ⟨rfl, rfl⟩
        go_wp2_with fail
        refine (szIntS_any _ n.inputs s hs1 hs2 _ H3.out).mono ?_
        rw [← Hq.out]
        rintro e w' ⟨rfl, rfl⟩
        go_wp2
        go_ret
        exact ⟨ret_int hr.out.symm, Hb0.out⟩
end Go.Proofs.YtfkmkpamdlhbgaaGreat
namespace Go.Proofs.YtfkmkpamdlhbgaaGreat
open Go.RowKit
theorem encE_zeros (n : Nat) : (List.replicate n ((0 : Int), (0 : Int))).flatMap encE = List.replicate (n * 2) (Value.int .i64 0) := by
  induction n with
  | zero => rfl
  | succ n ih => rw [List.replicate_succ, List.flatMap_cons, ih, show (n + 1) * 2 = n * 2 + 1 + 1 by omega, List.replicate_succ, List.replicate_succ]; rfl
theorem made_ends (n : Nat) : (madeCells #[Value.int .i64 0, Value.int .i64 0] (n * 2)).toList = (List.replicate n ((0 : Int), (0 : Int))).flatMap encE := by
  rw [encE_zeros]
  apply List.ext_getElem (by simp [madeCells])
  intro i h1 h2
  simp [madeCells]
  rcases Nat.mod_two_eq_zero_or_one i with h | h <;> simp [h]
section
variable {ops : Array Oper} {rest : List Oper} {o : Oper} {a : Act} {Q : Exit → Act → World → Prop}
theorem mk_ends (w : World) (hg : o.guard = none) (l c : Operand) (hop : o.op = Op.makeSlice 60 l c) (L C : Int) (n : Nat) (hl : a.eval l = .int .i64 L) (hc : a.eval c = .int .i64 C) (hL : L = (n : Int)) (hC : C = (n : Int)) (hn : n ≤ 1099511627776)
    (hK : ∀ w', OwnE w' w.heap.size (.slice (some ⟨w.heap.size, 0, none⟩) n n) (List.replicate n (0, 0)) [w.heap.size] → Below w.heap.size w w' → wpList Tryz.prog ops Q rest (a.put o.dst (.slice (some ⟨w.heap.size, 0, none⟩) n n)) w') : wpList Tryz.prog ops Q (o :: rest) a w := by
  obtain ⟨i0, hi, hz0, hz1, hz2⟩ := info_parts end_info
  refine wpList_make_full w hg l c 60 hop w.heap.size 62 i0 (.agg #[.int .i64 0, .int .i64 0]) 2 Tryz.underlying60 hi hz0 hz1 .i64 .i64 L C n hl hc hL hC (by rw [hz2]; omega) (by unfold maxLen; omega) (Nat.le_refl _) ?_
  intro w' ho hgr
  rw [show (Value.agg #[Value.int IntKind.i64 0, Value.int IntKind.i64 0]).cells = #[Value.int .i64 0, Value.int .i64 0] from rfl, made_ends] at ho
  exact hK w' ⟨by rw [List.length_replicate]; exact ho, by simp [Value.ownBlock]⟩ (below_grown hgr)
end
set_option maxHeartbeats 2000000 in
theorem toEndS_any (v : Value) (es : List (Int × Int)) (w : World) (h : EndS w v es) (hl : es.length ≤ 1048576) :
    Calls Tryz.prog 92 #[v] w fun e w' => ∃ g, e = .returned (.slice (some ⟨g, 0, none⟩) es.length es.length) ∧ OwnE w' w.heap.size (.slice (some ⟨g, 0, none⟩) es.length es.length) es [g] ∧ Below w.heap.size w w' := by
  obtain ⟨A, c, rfl, hlc, hm, hA⟩ := h
  unfold maxLen at hm
  have HA := Lib.hid hA
  clear hA
  go_enter Tryz.func92, Tryz.ntmps92
  go_wp2_with (at_make; refine mk_ends _ rfl _ _ rfl _ _ es.length rfl rfl rfl rfl (by omega) ?_; intro w1 ho1 hb1)
  go_loopw [4] (fun i wr => ∃ k : Nat, k ≤ es.length ∧ i = .int .i64 k ∧ OwnE wr w.heap.size (.slice (some ⟨w.heap.size, 0, none⟩) es.length es.length) (es.take k ++ List.replicate (es.length - k) (0, 0)) [w.heap.size] ∧ Below w.heap.size w wr) (fun i _ => es.length - (intOf i).toNat)
  case atStart => exact ⟨0, Nat.zero_le _, rfl, by simpa using ho1, hb1⟩
  case round =>
    obtain ⟨k, hk, rfl, ho, hb⟩ := hrel
    clear ho1 hb1
    by_cases hlt : k < es.length
    · obtain ⟨x, hx⟩ := getx es k hlt
      obtain ⟨b, off, rfl, hc1, hc2⟩ := HA.out k x hx
      have k1 := bc hb hc1
      have k2 := bc hb hc2
      have Ho := Lib.hid ho
      have Hb := Lib.hid hb
      have Hx := Lib.hid hx
      clear hx hc1 hc2 ho hb
      go_wp2_with fail
      refine (toEnd_any x.1 x.2 _).mono ?_
      rintro e w2 ⟨rfl, hb2⟩
      have ho2 : OwnE w2 w.heap.size (.slice (some ⟨w.heap.size, 0, none⟩) es.length es.length) (es.take k ++ List.replicate (es.length - k) (0, 0)) [w.heap.size] := lawE.keep Ho.out hb2
      obtain ⟨y, hy⟩ := getx (es.take k ++ List.replicate (es.length - k) (0, 0)) k (by simp; omega)
      obtain ⟨y1, y2, f1, f2⟩ := ho2.cells hy
      have ho3 := ho2.set (k := k) (by simp; omega) x
      rw [set_fill (0, 0) es k x Hx.out] at ho3
      have Ho3 := Lib.hid ho3
      have Hb3 := Lib.hid (((Hb.out.trans (hb2.mono Hb.out.size)).setCell (p := ⟨w.heap.size, k * 2, none⟩) (Nat.le_refl _) (.int .i64 x.1)).setCell (p := ⟨w.heap.size, k * 2 + 1, none⟩) (Nat.le_refl _) (.int .i64 x.2))
      clear ho2 hy ho3 hb2
      go_wp2
      go_roundw
      case rel => exact ⟨k + 1, by omega, by simp, Ho3.out, Hb3.out⟩
      case measure => simp [intOf]; omega
    · have e1 : es.take k ++ List.replicate (es.length - k) ((0 : Int), (0 : Int)) = es := by rw [take_all es hlt, show es.length - k = 0 by omega, List.replicate_zero, List.append_nil]
      rw [e1] at ho
      have Ho := Lib.hid ho
      have Hb := Lib.hid hb
      clear ho hb e1
      go_wp2
      go_ret
      exact ⟨_, rfl, Ho.out, Hb.out⟩
end Go.Proofs.YtfkmkpamdlhbgaaGreat
namespace Go.Proofs.YtfkmkpamdlhbgaaGreat
open Go.RowKit
section
variable {ops : Array Oper} {rest : List Oper} {o : Oper} {a : Act} {Q : Exit → Act → World → Prop}
theorem mk_rows (w : World) (hg : o.guard = none) (l c : Operand) (hop : o.op = Op.makeSlice 24 l c) (n : Nat) (hl : a.eval l = .int .i64 (n : Int)) (hc : a.eval c = .int .i64 (n : Int)) (hn : n ≤ 1048576)
    (hK : ∀ w', OwnEE w' w.heap.size (.slice (some ⟨w.heap.size, 0, none⟩) n n) (List.replicate n []) [w.heap.size] → Below w.heap.size w w' → wpList Tryz.prog ops Q rest (a.put o.dst (.slice (some ⟨w.heap.size, 0, none⟩) n n)) w') : wpList Tryz.prog ops Q (o :: rest) a w := by
  obtain ⟨i0, hi, hz0, hz1, hz2⟩ := info_parts es_info
  refine wpList_plain hg fun K hK' => ?_
  have hr := run_make (P := Tryz.prog) w 24 60 i0 (.slice none 0 0) Tryz.underlying24 hi hz0 .i64 .i64 n n (by omega) (Int.le_refl _) (by rw [hz2]; omega) (by omega)
  rw [hz1] at hr
  simp only [Int.toNat_natCast] at hr
  rw [show (Value.slice none 0 0).cells = #[Value.slice none 0 0] from rfl, made_rep] at hr
  unfold Oper.wp
  simp only [execOp, hop, hl, hc, Sem.run_bind, hr, Result.andThen_ok, Sem.run_pure]
  refine hK' _ _ (hK _ ?_ (below_alloc _ _))
  have := OwnRows.made (R := OwnE) (e := 60) n (by simp [maxLen]; omega) ownE_nil w
  rw [List.toArray_replicate] at this
  exact this
end
set_option maxHeartbeats 2000000 in
theorem toEndSS_any (v : Value) (ess : List (List (Int × Int))) (w : World) (h : EndSS w v ess) (hl : szEE ess ≤ 1048576) :
    Calls Tryz.prog 46 #[v] w fun e w' => ∃ g S, e = .returned (.slice (some ⟨g, 0, none⟩) ess.length ess.length) ∧ OwnEE w' w.heap.size (.slice (some ⟨g, 0, none⟩) ess.length ess.length) ess S ∧ Below w.heap.size w w' := by
  obtain ⟨A, c, rfl, hlc, hm, hA⟩ := h
  unfold maxLen at hm
  have HA := Lib.hid hA
  clear hA
  have hl1 : ess.length ≤ 1048576 := by unfold szEE at hl; omega
  have Hl := Lib.hid hl
  clear hl
  go_enter Tryz.func46, Tryz.ntmps46
  go_wp2_with (at_make; refine mk_rows _ rfl _ _ rfl ess.length rfl rfl hl1 ?_; intro w1 ho1 hb1)
  go_loopw [4] (fun i wr => ∃ (k : Nat) (S : List Nat), k ≤ ess.length ∧ i = .int .i64 k ∧ OwnEE wr w.heap.size (.slice (some ⟨w.heap.size, 0, none⟩) ess.length ess.length) (ess.take k ++ List.replicate (ess.length - k) []) S ∧ Below w.heap.size w wr) (fun i _ => ess.length - (intOf i).toNat)
  case atStart => exact ⟨0, _, Nat.zero_le _, rfl, by simpa using ho1, hb1⟩
  case round =>
    obtain ⟨k, S, hk, rfl, ho, hb⟩ := hrel
    clear ho1 hb1
    by_cases hlt : k < ess.length
    · obtain ⟨x, hx⟩ := getx ess k hlt
      obtain ⟨b, off, u, rfl, hc1, hu⟩ := HA.out k x hx
      have k1 := bc hb hc1
      have Hu := Lib.hid (hu.keep hb)
      have Ho := Lib.hid ho
      have Hb := Lib.hid hb
      have Hx := Lib.hid hx
      have Hxl : Hid (x.length ≤ 1048576) := by
        have h1 := szRows_snoc hx
        have h2 := szRows_le ess (k + 1)
        have h3 := Hl.out
        unfold szEE at h3
        exact show _ ≤ _ by omega
      clear hx hc1 ho hb hu
      go_wp2_with fail
      refine (toEndS_any _ x _ Hu.out Hxl.out).mono ?_
      rintro e w2 ⟨g, rfl, hr2, hb2⟩
      have ho2 := lawEE.keep Ho.out hb2
      obtain ⟨y, hy⟩ := getx (ess.take k ++ List.replicate (ess.length - k) []) k (by simp; omega)
      obtain ⟨_, _, y1, f1, _⟩ := OwnRows.at_ ho2 hy
      have hS := lawEE.range Ho.out
      have hg2 := (lawE.range hr2 g (by simp)).1
      obtain ⟨S3, ho3, _⟩ := OwnRows.store lawE ho2 k (lawE.mono hr2 Hb.out.size) (fun j hj hjS => by simp at hj; subst hj; have := (hS _ hjS).2; omega)
      rw [set_fill [] ess k x Hx.out] at ho3
      have Ho3 := Lib.hid ho3
      have Hb3 := Lib.hid ((Hb.out.trans (hb2.mono Hb.out.size)).setCell (p := ⟨w.heap.size, k, none⟩) (Nat.le_refl _) (.slice (some ⟨g, 0, none⟩) x.length x.length))
      clear ho2 hy ho3 hb2 hr2 hS
      go_wp2
      go_roundw
      case rel => exact ⟨k + 1, S3, by omega, by simp, Ho3.out, Hb3.out⟩
      case measure => simp [intOf]; omega
    · have e1 : ess.take k ++ List.replicate (ess.length - k) ([] : List (Int × Int)) = ess := by rw [List.take_of_length_le (by omega), show ess.length - k = 0 by omega, List.replicate_zero, List.append_nil]
      rw [e1] at ho
      have Ho := Lib.hid ho
      have Hb := Lib.hid hb
      clear ho hb e1
      go_wp2
      go_ret
      exact ⟨_, S, rfl, Ho.out, Hb.out⟩
end Go.Proofs.YtfkmkpamdlhbgaaGreat
namespace Go.Proofs.YtfkmkpamdlhbgaaGreat
open Go.RowKit
theorem Box3.put0 {w : World} {b : Nat} {x y z u : Value} (h : Box3 w b x y z) : Box3 (w.setCell ⟨b, 0, none⟩ u) b u y z := by
  obtain ⟨r, h⟩ := h
  exact ⟨r, by simp [World.setCell, Array.getElem?_modify, h]⟩
theorem Box3.put1 {w : World} {b : Nat} {x y z u : Value} (h : Box3 w b x y z) : Box3 (w.setCell ⟨b, 1, none⟩ u) b x u z := by
  obtain ⟨r, h⟩ := h
  exact ⟨r, by simp [World.setCell, Array.getElem?_modify, h]⟩
theorem Box3.put2 {w : World} {b : Nat} {x y z u : Value} (h : Box3 w b x y z) : Box3 (w.setCell ⟨b, 2, none⟩ u) b x y u := by
  obtain ⟨r, h⟩ := h
  exact ⟨r, by simp [World.setCell, Array.getElem?_modify, h]⟩
set_option maxHeartbeats 4000000 in
theorem toNetwork_any (ve vi vn : Value) (n : Net) (w : World) (h : NetIn w ve vi vn n) (hl : szNet n ≤ 1048576) : Calls Tryz.prog 20 #[.agg #[ve, vi, vn]] w (NewNet w n) := by
  have hl1 : szEE n.ends ≤ 1048576 := by unfold szNet at hl; omega
  have hl2 : n.ids.length ≤ 17592186044416 := by unfold szNet at hl; omega
  have hl3 : n.inputs.length ≤ 17592186044416 := by unfold szNet at hl; omega
  obtain ⟨A1, c1, hve, _⟩ := id h.1
  obtain ⟨A2, c2, hvi, _⟩ := id h.2.1
  obtain ⟨A3, c3, hvn, _⟩ := id h.2.2
  subst hve hvi hvn
  obtain ⟨wa, hwa⟩ : ∃ wa, wa = ((w.alloc (.cells #[.slice A1 n.ends.length c1, .slice A2 n.ids.length c2, .slice A3 n.inputs.length c3] 47)).alloc (.cells #[.slice none 0 0, .slice none 0 0, .slice none 0 0] 27)).alloc (.cells #[.slice none 0 0, .slice none 0 0, .slice none 0 0] 27) := ⟨_, rfl⟩
  have hba : Below w.heap.size w wa := by rw [hwa]; exact below3 _ _ _ _
  have hsa : wa.heap.size = w.heap.size + 3 := by rw [hwa]; simp
  have b1 : Box3 wa w.heap.size (.slice A1 n.ends.length c1) (.slice A2 n.ids.length c2) (.slice A3 n.inputs.length c3) := by rw [hwa]; exact ((Box3.new _ _ _ _ _).alloc _).alloc _
  have b2 : Box3 wa (w.heap.size + 1) (.slice none 0 0) (.slice none 0 0) (.slice none 0 0) := by
    rw [hwa]
    have := (Box3.new (w.alloc (.cells #[.slice A1 n.ends.length c1, .slice A2 n.ids.length c2, .slice A3 n.inputs.length c3] 47)) (.slice none 0 0) (.slice none 0 0) (.slice none 0 0) 27).alloc (.cells #[.slice none 0 0, .slice none 0 0, .slice none 0 0] 27)
    simpa using this
  have b3 : Box3 wa (w.heap.size + 2) (.slice none 0 0) (.slice none 0 0) (.slice none 0 0) := by
    rw [hwa]
    have := Box3.new ((w.alloc (.cells #[.slice A1 n.ends.length c1, .slice A2 n.ids.length c2, .slice A3 n.inputs.length c3] 47)).alloc (.cells #[.slice none 0 0, .slice none 0 0, .slice none 0 0] 27)) (.slice none 0 0) (.slice none 0 0) (.slice none 0 0) 27
    simpa using this
  have hn := h.keep hba
  have H1 := Lib.hid hn
  rw [hwa] at H1
  have Ha := Lib.hid hwa
  have Hba := Lib.hid hba
  have B1 := Lib.hid b1
  have B2 := Lib.hid b2
  have B3 := Lib.hid b3
  have Hn := Lib.hid hn
  have H0 := Lib.hid h
  clear hwa hba b1 b2 b3 hn h hl
  go_enter Tryz.func20, Tryz.ntmps20
  go_wp2_with fail
  refine (toEndSS_any _ n.ends _ (by exact H1.out.1) hl1).mono ?_
  rw [← Ha.out]
  rintro e w1 ⟨g, S1, rfl, ho1, hb1⟩
  have hs1 := hb1.size
  obtain ⟨W1, hW1⟩ : ∃ W1, W1 = w1.setCell ⟨w.heap.size + 2, 0, none⟩ (.slice (some ⟨g, 0, none⟩) n.ends.length n.ends.length) := ⟨_, rfl⟩
  have b1 : Box3 W1 w.heap.size (.slice A1 n.ends.length c1) (.slice A2 n.ids.length c2) (.slice A3 n.inputs.length c3) := by rw [hW1]; exact (B1.out.below hb1 (by omega)).set (by simp)
  have b2 : Box3 W1 (w.heap.size + 1) (.slice none 0 0) (.slice none 0 0) (.slice none 0 0) := by rw [hW1]; exact (B2.out.below hb1 (by omega)).set (by simp)
  have b3 : Box3 W1 (w.heap.size + 2) (.slice (some ⟨g, 0, none⟩) n.ends.length n.ends.length) (.slice none 0 0) (.slice none 0 0) := by rw [hW1]; exact (B3.out.below hb1 (by omega)).put0
  obtain ⟨q0, q1, q2, f0, f1, f2⟩ := (B3.out.below hb1 (by omega)).cells
  obtain ⟨p0, p1, p2, _⟩ := b1.cells
  rw [hW1] at p1
  go_wp2_with fail
  have hB1 : Below w.heap.size w W1 := by rw [hW1]; exact (Hba.out.trans (hb1.mono (by omega))).setCell (by simp) _
  have HB1 := Lib.hid hB1
  have HI : Hid (IntS W1 (.slice A2 n.ids.length c2) n.ids) := H0.out.2.1.keep hB1
  have HO1 : Hid (OwnEE W1 wa.heap.size (.slice (some ⟨g, 0, none⟩) n.ends.length n.ends.length) n.ends S1) := by
    rw [hW1]
    exact lawEE.stable ho1 (fun j hj => Below.heap_setCell _ _ _ _ (by have := (lawEE.range ho1 j hj).1; show j ≠ w.heap.size + 2; omega))
  have X1 := Lib.hid b1
  have X2 := Lib.hid b2
  have X3 := Lib.hid b3
  have HW1 := Lib.hid hW1
  have hsW1 : wa.heap.size ≤ W1.heap.size := by rw [hW1]; simpa using hs1
  clear hB1 b1 b2 b3 p0 p1 p2 q0 q1 q2 f0 f1 f2 ho1 hb1 hW1
  refine (toIntS_any _ n.ids _ (by rw [← HW1.out]; exact HI.out) hl2).mono ?_
  rw [← HW1.out]
  rintro e w2 ⟨u2, rfl, ho2, hb2⟩
  have hs2 := hb2.size
  obtain ⟨D2, d2, hu2, _⟩ := id ho2.ints
  subst hu2
  obtain ⟨W2, hW2⟩ : ∃ W2, W2 = w2.setCell ⟨w.heap.size + 2, 1, none⟩ (.slice D2 n.ids.length d2) := ⟨_, rfl⟩
  have b1 : Box3 W2 w.heap.size (.slice A1 n.ends.length c1) (.slice A2 n.ids.length c2) (.slice A3 n.inputs.length c3) := by rw [hW2]; exact (X1.out.below hb2 (by omega)).set (by simp)
  have b2 : Box3 W2 (w.heap.size + 1) (.slice none 0 0) (.slice none 0 0) (.slice none 0 0) := by rw [hW2]; exact (X2.out.below hb2 (by omega)).set (by simp)
  have b3 : Box3 W2 (w.heap.size + 2) (.slice (some ⟨g, 0, none⟩) n.ends.length n.ends.length) (.slice D2 n.ids.length d2) (.slice none 0 0) := by rw [hW2]; exact (X3.out.below hb2 (by omega)).put1
  obtain ⟨q0, q1, q2, f0, f1, f2⟩ := (X3.out.below hb2 (by omega)).cells
  obtain ⟨p0, p1, p2, _⟩ := b1.cells
  rw [hW2] at p2
  go_wp2_with fail
  have hB2 : Below w.heap.size w W2 := by rw [hW2]; exact (HB1.out.trans (hb2.mono (by omega))).setCell (by simp) _
  have HB2 := Lib.hid hB2
  have HJ : Hid (IntS W2 (.slice A3 n.inputs.length c3) n.inputs) := H0.out.2.2.keep hB2
  have HO2 : Hid (OwnEE W2 wa.heap.size (.slice (some ⟨g, 0, none⟩) n.ends.length n.ends.length) n.ends S1) := by
    rw [hW2]
    have := lawEE.keep HO1.out hb2
    exact lawEE.stable this (fun j hj => Below.heap_setCell _ _ _ _ (by have := (lawEE.range this j hj).1; show j ≠ w.heap.size + 2; omega))
  have HU2 : Hid (Own W2 W1.heap.size (.slice D2 n.ids.length d2) n.ids) := by
    rw [hW2]
    exact ownsRow_stable ho2 (fun j hj => Below.heap_setCell _ _ _ _ (by have := (World.ownsRow.lt ho2 j (by simpa using hj)).1; show j ≠ w.heap.size + 2; omega))
  have hr1 : Hid (∀ j ∈ S1, j < W1.heap.size) := fun j hj => (lawEE.range HO1.out j hj).2
  have Y2 := Lib.hid b2
  have Y3 := Lib.hid b3
  have HW2 := Lib.hid hW2
  have hsW2 : W1.heap.size ≤ W2.heap.size := by rw [hW2]; simpa using hs2
  clear hB2 b1 b2 b3 p0 p1 p2 q0 q1 q2 f0 f1 f2 ho2 hb2 hW2
  refine (toIntS_any _ n.inputs _ (by rw [← HW2.out]; exact HJ.out) hl3).mono ?_
  rw [← HW2.out]
  rintro e w3 ⟨u3, rfl, ho3, hb3⟩
  have hs3 := hb3.size
  obtain ⟨D3, d3, hu3, _⟩ := id ho3.ints
  subst hu3
  obtain ⟨q0, q1, q2, f0, f1, f2⟩ := (Y3.out.below hb3 (by omega)).cells
  obtain ⟨p0, p1, p2, g0, g1, g2⟩ := (Y2.out.below hb3 (by omega)).cells
  have hfin : Hid (∀ t x y z, (∃ S, OwnNet ((((w3.setCell ⟨w.heap.size + 2, 2, none⟩ t).setCell ⟨w.heap.size + 1, 0, none⟩ x).setCell ⟨w.heap.size + 1, 1, none⟩ y).setCell ⟨w.heap.size + 1, 2, none⟩ z) w.heap.size (.slice (some ⟨g, 0, none⟩) n.ends.length n.ends.length) (.slice D2 n.ids.length d2) (.slice D3 n.inputs.length d3) n S) ∧ Below w.heap.size w ((((w3.setCell ⟨w.heap.size + 2, 2, none⟩ t).setCell ⟨w.heap.size + 1, 0, none⟩ x).setCell ⟨w.heap.size + 1, 1, none⟩ y).setCell ⟨w.heap.size + 1, 2, none⟩ z)) := fun t x y z => by
    have hne : ∀ j, wa.heap.size ≤ j → ((((w3.setCell ⟨w.heap.size + 2, 2, none⟩ t).setCell ⟨w.heap.size + 1, 0, none⟩ x).setCell ⟨w.heap.size + 1, 1, none⟩ y).setCell ⟨w.heap.size + 1, 2, none⟩ z).heap[j]? = w3.heap[j]? := fun j hj => by
      rw [Below.heap_setCell _ _ _ _ (by show j ≠ w.heap.size + 1; omega), Below.heap_setCell _ _ _ _ (by show j ≠ w.heap.size + 1; omega), Below.heap_setCell _ _ _ _ (by show j ≠ w.heap.size + 1; omega), Below.heap_setCell _ _ _ _ (by show j ≠ w.heap.size + 2; omega)]
    have k1 := lawEE.keep HO2.out hb3
    have k2 := HU2.out.keep hb3
    refine ⟨⟨_, S1, _, _, lawEE.mono (lawEE.stable k1 fun j hj => hne j (lawEE.range k1 j hj).1) (by omega), ⟨Own.mono (base := W1.heap.size) (ownsRow_stable k2 fun j hj => hne j (by have := (World.ownsRow.lt k2 j (by simpa using hj)).1; omega)) (by omega), rfl⟩, ⟨Own.mono (base := W2.heap.size) (ownsRow_stable ho3 fun j hj => hne j (by have := (World.ownsRow.lt ho3 j (by simpa using hj)).1; omega)) (by omega), rfl⟩, rfl, ?_⟩, ((((HB2.out.trans (hb3.mono (by omega))).setCell (by simp) _).setCell (by simp) _).setCell (by simp) _).setCell (by simp) _⟩
    have i2 : ∀ j, (Value.slice D2 n.ids.length d2).ownBlock = some j → W1.heap.size ≤ j ∧ j < W2.heap.size := fun j hj => ⟨(World.ownsRow.lt HU2.out j hj).1, (World.ownsRow.lt HU2.out j hj).2⟩
    have i3 : ∀ j, (Value.slice D3 n.inputs.length d3).ownBlock = some j → W2.heap.size ≤ j := fun j hj => (World.ownsRow.lt ho3 j hj).1
    rw [List.nodup_append, List.nodup_append]
    refine ⟨lawEE.nodup k1, ⟨?_, ?_, fun a ha b hb hab => ?_⟩, fun a ha b hb hab => ?_⟩
    · cases (Value.slice D2 n.ids.length d2).ownBlock <;> simp
    · cases (Value.slice D3 n.inputs.length d3).ownBlock <;> simp
    · subst hab
      have := i2 a (by simpa using ha)
      have := i3 a (by simpa using hb)
      omega
    · subst hab
      have h1 := hr1.out a ha
      rcases List.mem_append.1 hb with h | h
      · have := i2 a (by simpa using h)
        omega
      · have := i3 a (by simpa using h)
        omega
  clear ho3 hb3
  go_wp2
  refine bodyPost_ret (v := .agg #[.slice (some ⟨g, 0, none⟩) n.ends.length n.ends.length, .slice D2 n.ids.length d2, .slice D3 n.inputs.length d3]) (by simp [results, Tryz.results20, go_sem, *]) rfl ?_
  exact (hfin.out _ _ _ _).1.elim fun S hS => ⟨_, _, _, S, rfl, hS, (hfin.out _ _ _ _).2⟩
end Go.Proofs.YtfkmkpamdlhbgaaGreat
namespace Go.Proofs.YtfkmkpamdlhbgaaGreat
open Go Go.RowKit
@[simp ↓] theorem run_neq_end (a b c d : Int) (w : World) : (binOp .neq 62 (.agg #[.int .i64 a, .int .i64 b]) (.agg #[.int .i64 c, .int .i64 d])).run Tryz.prog w = .ok (.bool (!eqE (a, b) (c, d))) w := by
  go_simp
  by_cases f1 : a = c
  · by_cases f2 : b = d
    · simp [f1, f2, eqE]
    · simp [f1, f2, eqE]
  · simp [f1, eqE]
@[simp ↓] theorem run_eql_end (a b c d : Int) (w : World) : (binOp .eql 62 (.agg #[.int .i64 a, .int .i64 b]) (.agg #[.int .i64 c, .int .i64 d])).run Tryz.prog w = .ok (.bool (eqE (a, b) (c, d))) w := by
  go_simp
  by_cases f1 : a = c
  · by_cases f2 : b = d
    · simp [f1, f2, eqE]
    · simp [f1, f2, eqE]
  · simp [f1, eqE]
theorem NetIn.es {w : World} {a b c : Value} {n : Net} (h : NetIn w a b c n) : EndSS w a n.ends := h.1
theorem NetIn.is {w : World} {a b c : Value} {n : Net} (h : NetIn w a b c n) : IntS w b n.ids := h.2.1
theorem NetIn.ns {w : World} {a b c : Value} {n : Net} (h : NetIn w a b c n) : IntS w c n.inputs := h.2.2
theorem wr64 (z : Int) (h : -9223372036854775808 ≤ z) (h2 : z ≤ 9223372036854775807) : IntKind.i64.wrap z = z := IntWalk.i64_in z ⟨h, h2⟩
end Go.Proofs.YtfkmkpamdlhbgaaGreat
namespace Go.Proofs.YtfkmkpamdlhbgaaGreat
open Go.RowKit
theorem left_ok {k : Nat} (h : k ≤ 1048576) : ∃ q : Int, left 1048576 k = q ∧ 0 ≤ q := ⟨_, rfl, by unfold left; split <;> omega⟩
theorem left_bad {k : Nat} (h : ¬ k ≤ 1048576) : left 1048576 k = -1 := by unfold left; rw [if_pos (by omega)]
theorem eqIs_self (xs : List Int) : eqIs xs xs = true := by simp [eqIs]
theorem eqIntS_same (v u : Value) (xs : List Int) (w : World) (h : IntS w v xs) (h' : IntS w u xs) :
    Calls Tryz.prog 22 #[v, u] w fun e w' => e = .returned (.bool true) ∧ Below w.heap.size w w' := by
  have := eqIntS_b v u xs xs w h h'
  rwa [eqIs_self] at this
theorem cntEE_sz (ess : List (List (Int × Int))) : cntEE ess ≤ 2 * szRows ess := by
  induction ess with
  | nil => simp [cntEE]
  | cons a r ih => simp only [cntEE, szRows, List.map_cons, List.sum_cons] at *; omega
theorem cnt_sz {n : Net} (h : szNet n ≤ 1048576) : 1 + cntNet n ≤ 4194304 := by
  have := cntEE_sz n.ends
  unfold szNet szEE at h
  unfold cntNet
  omega
end Go.Proofs.YtfkmkpamdlhbgaaGreat
namespace Go.Proofs.YtfkmkpamdlhbgaaGreat
/-- the reference's test of identifiers -/
def sIdsB (ids : List Int) (nodes : Int) : Bool := ((List.range ids.length).all fun i => inB 1 999999 (ids.getD i 0) && !((ids.take i).contains (ids.getD i 0))) && ((ids.length : Int) == 0 || (ids.length : Int) == nodes)
theorem getD_of_lt {ids : List Int} {i : Nat} (h : i < ids.length) : ids.getD i 0 = ids[i] := by simp [List.getD_eq_getElem?_getD, h]
theorem takes_nodup (ids : List Int) : (∀ i (h : i < ids.length), ids[i] ∉ ids.take i) ↔ ids.Nodup := by
  unfold List.Nodup
  rw [List.pairwise_iff_getElem]
  constructor
  · intro h i j hi hj hij e
    refine h j hj (List.mem_iff_getElem.2 ⟨i, by simp; omega, ?_⟩)
    rw [List.getElem_take]; exact e
  · intro h i hi hm
    obtain ⟨j, hj, e⟩ := List.mem_iff_getElem.1 hm
    simp at hj
    rw [List.getElem_take] at e
    exact h j i (by omega) hi (by omega) e
theorem rising_iff (lo up : Int) (s : List Int) : risingB lo up s = true ↔ (∀ x ∈ s, inB lo up x = true) ∧ s.Pairwise (· < ·) := by
  unfold risingB
  rw [List.all_eq_true]
  constructor
  · intro h
    have h' : ∀ i (hl : i < s.length), inB lo up s[i] = true ∧ (i = 0 ∨ s.getD (i - 1) 0 < s[i]) := fun i hl => by
      have := h i (List.mem_range.2 hl)
      rw [getD_of_lt hl] at this
      simpa using this
    refine ⟨fun x hx => ?_, ?_⟩
    · obtain ⟨i, hi, rfl⟩ := List.mem_iff_getElem.1 hx
      exact (h' i hi).1
    · rw [List.pairwise_iff_getElem]
      intro i j hi hj hij
      induction j with
      | zero => omega
      | succ j ih =>
        have hs := (h' (j + 1) hj).2
        rw [Nat.add_sub_cancel, getD_of_lt (show j < s.length by omega)] at hs
        rcases Nat.lt_or_ge i j with h1 | h1
        · have := ih (by omega) h1
          omega
        · obtain rfl : i = j := by omega
          omega
  · rintro ⟨h1, h2⟩ i hi
    have hl := List.mem_range.1 hi
    rw [getD_of_lt hl]
    rw [List.pairwise_iff_getElem] at h2
    rw [Bool.and_eq_true]
    refine ⟨h1 _ (List.getElem_mem hl), ?_⟩
    rcases Nat.eq_zero_or_pos i with h0 | h0
    · simp [h0]
    · have := h2 (i - 1) i (by omega) hl (by omega)
      rw [getD_of_lt (show i - 1 < s.length by omega)]
      simp [this]
theorem sIds_iff (ids : List Int) (nodes : Int) : sIdsB ids nodes = true ↔ (∀ x ∈ ids, inB 1 999999 x = true) ∧ ids.Nodup ∧ ((ids.length : Int) = 0 ∨ (ids.length : Int) = nodes) := by
  unfold sIdsB
  rw [Bool.and_eq_true, List.all_eq_true, ← takes_nodup]
  constructor
  · rintro ⟨h, h2⟩
    have h' : ∀ i (hl : i < ids.length), inB 1 999999 ids[i] = true ∧ ids[i] ∉ ids.take i := fun i hl => by
      have := h i (List.mem_range.2 hl)
      rw [getD_of_lt hl] at this
      simpa using this
    refine ⟨fun x hx => ?_, fun i hl => (h' i hl).2, by simpa using h2⟩
    obtain ⟨i, hi, rfl⟩ := List.mem_iff_getElem.1 hx
    exact (h' i hi).1
  · rintro ⟨h1, h2, h3⟩
    refine ⟨fun i hi => ?_, by simpa using h3⟩
    have hl := List.mem_range.1 hi
    rw [getD_of_lt hl, Bool.and_eq_true]
    exact ⟨h1 _ (List.getElem_mem hl), by simpa using h2 i hl⟩
theorem sIds_eq (ids : List Int) (nodes : Int) : sIdsB ids nodes = idsB ids nodes := by
  rw [Bool.eq_iff_iff, sIds_iff]
  cases hids : ids with
  | nil => simp [idsB]
  | cons a l =>
    rw [← hids]
    have hne : ids.isEmpty = false := by rw [hids]; rfl
    have hl0 : ¬ (ids.length : Int) = 0 := by rw [hids]; simp; omega
    unfold idsB
    rw [hne, Bool.false_or, Bool.and_eq_true, rising_iff, beq_iff_eq]
    have hp := List.mergeSort_perm ids (fun x y => decide (x ≤ y))
    have hs : (ids.mergeSort fun x y => decide (x ≤ y)).Pairwise fun a b => decide (a ≤ b) = true :=
      List.pairwise_mergeSort (fun a b c h1 h2 => by simp at h1 h2 ⊢; omega) (fun a b => by simp; omega) ids
    constructor
    · rintro ⟨h1, h2, h3⟩
      refine ⟨by omega, fun x hx => h1 x (hp.mem_iff.1 hx), ?_⟩
      have hn := hp.nodup_iff.2 h2
      exact (hs.and hn).imp fun {a b} ⟨h, h'⟩ => by simp at h; omega
    · rintro ⟨h1, h2, h3⟩
      refine ⟨fun x hx => h2 x (hp.mem_iff.2 hx), hp.nodup_iff.1 (h3.imp fun {a b} h => by omega), .inr h1⟩
end Go.Proofs.YtfkmkpamdlhbgaaGreat
namespace Go.Proofs.YtfkmkpamdlhbgaaGreat
open Go.RowKit
def hasB (xs : List Int) (x : Int) : Bool := xs.contains x
set_option maxHeartbeats 1000000 in
theorem l1Has_any (v : Value) (xs : List Int) (x : Int) (w : World) (h : IntS w v xs) : Calls Tryz.prog 123 #[v, .int .i64 x] w fun e w' => e = .returned (.bool (hasB xs x)) ∧ w = w' := by
  obtain ⟨A, c, rfl, hlc, hm, hA⟩ := h
  unfold maxLen at hm
  have HA := Lib.hid hA
  clear hA
  go_enter Tryz.func123, Tryz.ntmps123
  go_wp2
  go_loop [9] (fun i => ∃ k : Nat, k ≤ xs.length ∧ i = .int .i64 k ∧ x ∉ xs.take k) (fun i => xs.length - (intOf i).toNat)
  case atStart => exact ⟨0, Nat.zero_le _, rfl, by simp⟩
  case round =>
    obtain ⟨k, hk, rfl, hno⟩ := hrel
    have Hno := Lib.hid hno
    clear hno
    by_cases hlt : k < xs.length
    · obtain ⟨y, hy⟩ := getx xs k hlt
      obtain ⟨b, off, rfl, hcell⟩ := HA.out k y hy
      have Hy := Lib.hid hy
      clear hy
      by_cases hxy : y = x
      · subst hxy
        go_wp2
        go_ret
        exact ⟨ret_true (by unfold hasB; simpa using List.mem_of_getElem? Hy.out), rfl⟩
      · go_wp2
        go_round
        case rel =>
          refine ⟨k + 1, by omega, by simp, ?_⟩
          rw [take_snoc Hy.out]
          simp only [List.mem_append, List.mem_singleton, not_or]
          exact ⟨Hno.out, fun e => hxy e.symm⟩
        case measure => simp [intOf]; omega
    · go_wp2
      go_ret
      have := Hno.out
      rw [take_all xs hlt] at this
      exact ⟨ret_false (by unfold hasB; simpa using this), rfl⟩
theorem IntS.take {w : World} {A : Option Addr} {c : Nat} {xs : List Int} (h : IntS w (.slice A xs.length c) xs) (k : Nat) (hk : k ≤ xs.length) : IntS w (.slice A k c) (xs.take k) := by
  obtain ⟨A', c', hv, hlc, hm, hA⟩ := h
  cases hv
  refine ⟨A, c, by simp [Nat.min_eq_left hk], by simp; omega, hm, fun j x hx => ?_⟩
  have hj : j < k := by have := lt_of_get hx; simp at this; omega
  rw [List.getElem?_take, if_pos hj] at hx
  exact hA j x hx
set_option maxHeartbeats 2000000 in
theorem neIds_any (v : Value) (ids : List Int) (nodes : Int) (w : World) (h : IntS w v ids) : Calls Tryz.prog 68 #[v, .int .i64 nodes] w fun e w' => e = .returned (.bool (sIdsB ids nodes)) ∧ w = w' := by
  have H := Lib.hid h
  obtain ⟨A, c, rfl, hlc, hm, hA⟩ := h
  unfold maxLen at hm
  have HA := Lib.hid hA
  clear hA
  go_enter Tryz.func68, Tryz.ntmps68
  go_wp2
  go_loop [9] (fun i => ∃ k : Nat, k ≤ ids.length ∧ i = .int .i64 k ∧ ∀ j, j < k → inB 1 999999 (ids.getD j 0) = true ∧ hasB (ids.take j) (ids.getD j 0) = false) (fun i => ids.length - (intOf i).toNat)
  case atStart => exact ⟨0, Nat.zero_le _, rfl, fun j hj => by omega⟩
  case round =>
    obtain ⟨k, hk, rfl, hno⟩ := hrel
    have Hno := Lib.hid hno
    clear hno
    by_cases hlt : k < ids.length
    · obtain ⟨y, hy⟩ := getx ids k hlt
      obtain ⟨b, off, rfl, hcell⟩ := HA.out k y hy
      have hgy : ids.getD k 0 = y := by simp [hy]
      have Hg := Lib.hid hgy
      clear hy hgy
      cases hi : inB 1 999999 y
      · go_wp2_with (go_at_call 67; refine (l1In_b _ _ _ _).mono ?_; rintro e w' ⟨rfl, rfl⟩)
        go_ret
        refine ⟨ret_false ?_, rfl⟩
        unfold sIdsB
        rw [Bool.and_eq_false_iff]
        left
        rw [List.all_eq_false]
        exact ⟨k, List.mem_range.2 hlt, by rw [Hg.out, hi]; simp⟩
      · cases hc : hasB (ids.take k) y
        · go_wp2_with (first | (go_at_call 67; refine (l1In_b _ _ _ _).mono ?_; rintro e w' ⟨rfl, rfl⟩) | (go_at_call 123; refine (l1Has_any _ (ids.take k) y _ (H.out.take k hk)).mono ?_; rintro e w' ⟨rfl, rfl⟩))
          go_round
          case rel =>
            refine ⟨k + 1, by omega, by simp, fun j hj => ?_⟩
            rcases Nat.lt_or_ge j k with h | h
            · exact Hno.out j h
            · obtain rfl : j = k := by omega
              rw [Hg.out]; exact ⟨hi, hc⟩
          case measure => simp [intOf]; omega
        · go_wp2_with (first | (go_at_call 67; refine (l1In_b _ _ _ _).mono ?_; rintro e w' ⟨rfl, rfl⟩) | (go_at_call 123; refine (l1Has_any _ (ids.take k) y _ (H.out.take k hk)).mono ?_; rintro e w' ⟨rfl, rfl⟩))
          go_ret
          refine ⟨ret_false ?_, rfl⟩
          unfold sIdsB
          rw [Bool.and_eq_false_iff]
          left
          rw [List.all_eq_false]
          exact ⟨k, List.mem_range.2 hlt, by rw [Hg.out, hi]; unfold hasB at hc; rw [hc]; simp⟩
    · have hall : Hid (sIdsB ids nodes = ((ids.length : Int) == 0 || (ids.length : Int) == nodes)) := by
        show _ = _
        unfold sIdsB
        rw [show ((List.range ids.length).all fun i => inB 1 999999 (ids.getD i 0) && !((ids.take i).contains (ids.getD i 0))) = true from List.all_eq_true.2 (fun j hj => by
          have := Hno.out j (by have := List.mem_range.1 hj; omega)
          unfold hasB at this
          rw [this.1, this.2]; rfl), Bool.true_and]
      by_cases h0 : (ids.length : Int) = 0
      · go_wp2
        go_ret
        exact ⟨ret_true (by rw [hall.out]; simp [h0]), rfl⟩
      · have hne : ¬ ids = [] := fun e => h0 (by simp [e])
        go_wp2
        go_ret
        refine ⟨ret_bool ?_, rfl⟩
        rw [hall.out, show ((ids.length : Int) == 0) = false by simpa using h0, Bool.false_or]
end Go.Proofs.YtfkmkpamdlhbgaaGreat
