import Derived.Test.YtaplbmgnfdikdaaSz2
namespace Go.Proofs.Ytaplbmgnfdikdaa
open Go.RowKit
theorem encE_zeros (n : Nat) : (List.replicate n ((0 : Int), (0 : Int))).flatMap encE = List.replicate (n * 2) (Value.int .i64 0) := by
  induction n with
  | zero => rfl
  | succ n ih => rw [List.replicate_succ, List.flatMap_cons, ih, show (n + 1) * 2 = n * 2 + 1 + 1 by omega, List.replicate_succ, List.replicate_succ]; rfl
theorem made_ends (n : Nat) : (madeCells #[Value.int .i64 0, Value.int .i64 0] (n * 2)).toList = (List.replicate n ((0 : Int), (0 : Int))).flatMap encE := by
  rw [encE_zeros]
  apply List.ext_getElem (by simp [madeCells])
  intro i h1 h2
  simp [madeCells]
  rcases Nat.mod_two_eq_zero_or_one i with h | h <;> simp [h]
section
variable {ops : Array Oper} {rest : List Oper} {o : Oper} {a : Act} {Q : Exit → Act → World → Prop}
theorem mk_ends (w : World) (hg : o.guard = none) (l c : Operand) (hop : o.op = Op.makeSlice 79 l c) (L C : Int) (n : Nat) (hl : a.eval l = .int .i64 L) (hc : a.eval c = .int .i64 C) (hL : L = (n : Int)) (hC : C = (n : Int)) (hn : n ≤ 1099511627776)
    (hK : ∀ w', OwnE w' w.heap.size (.slice (some ⟨w.heap.size, 0, none⟩) n n) (List.replicate n (0, 0)) [w.heap.size] → Below w.heap.size w w' → wpList Try.prog ops Q rest (a.put o.dst (.slice (some ⟨w.heap.size, 0, none⟩) n n)) w') : wpList Try.prog ops Q (o :: rest) a w := by
  obtain ⟨i0, hi, hz0, hz1, hz2⟩ := info_parts end_info
  refine wpList_make_full w hg l c 79 hop w.heap.size 77 i0 (.agg #[.int .i64 0, .int .i64 0]) 2 Try.underlying79 hi hz0 hz1 .i64 .i64 L C n hl hc hL hC (by rw [hz2]; omega) (by unfold maxLen; omega) (Nat.le_refl _) ?_
  intro w' ho hgr
  rw [show (Value.agg #[Value.int IntKind.i64 0, Value.int IntKind.i64 0]).cells = #[Value.int .i64 0, Value.int .i64 0] from rfl, made_ends] at ho
  exact hK w' ⟨by rw [List.length_replicate]; exact ho, by simp [Value.ownBlock]⟩ (below_grown hgr)
end
set_option maxHeartbeats 2000000 in
theorem toEndS_any (v : Value) (es : List (Int × Int)) (w : World) (h : EndS w v es) (hl : es.length ≤ 1048576) :
    Calls Try.prog 106 #[v] w fun e w' => ∃ g, e = .returned (.slice (some ⟨g, 0, none⟩) es.length es.length) ∧ OwnE w' w.heap.size (.slice (some ⟨g, 0, none⟩) es.length es.length) es [g] ∧ Below w.heap.size w w' := by
  obtain ⟨A, c, rfl, hlc, hm, hA⟩ := h
  unfold maxLen at hm
  have HA := Lib.hid hA
  clear hA
  go_enter Try.func106, Try.ntmps106
  go_wp2_with (at_make; refine mk_ends _ rfl _ _ rfl _ _ es.length rfl rfl rfl rfl (by omega) ?_; intro w1 ho1 hb1)
  go_loopw [4] (fun i wr => ∃ k : Nat, k ≤ es.length ∧ i = .int .i64 k ∧ OwnE wr w.heap.size (.slice (some ⟨w.heap.size, 0, none⟩) es.length es.length) (es.take k ++ List.replicate (es.length - k) (0, 0)) [w.heap.size] ∧ Below w.heap.size w wr) (fun i _ => es.length - (intOf i).toNat)
  case atStart => exact ⟨0, Nat.zero_le _, rfl, by simpa using ho1, hb1⟩
  case round =>
    obtain ⟨k, hk, rfl, ho, hb⟩ := hrel
    clear ho1 hb1
    by_cases hlt : k < es.length
    · obtain ⟨x, hx⟩ := getx es k hlt
      obtain ⟨b, off, rfl, hc1, hc2⟩ := HA.out k x hx
      have k1 := bc hb hc1
      have k2 := bc hb hc2
      have Ho := Lib.hid ho
      have Hb := Lib.hid hb
      have Hx := Lib.hid hx
      clear hx hc1 hc2 ho hb
      go_wp2_with fail
      refine (toEnd_any x.1 x.2 _).mono ?_
      rintro e w2 ⟨rfl, hb2⟩
      have ho2 : OwnE w2 w.heap.size (.slice (some ⟨w.heap.size, 0, none⟩) es.length es.length) (es.take k ++ List.replicate (es.length - k) (0, 0)) [w.heap.size] := lawE.keep Ho.out hb2
      obtain ⟨y, hy⟩ := getx (es.take k ++ List.replicate (es.length - k) (0, 0)) k (by simp; omega)
      obtain ⟨y1, y2, f1, f2⟩ := ho2.cells hy
      have ho3 := ho2.set (k := k) (by simp; omega) x
      rw [set_fill (0, 0) es k x Hx.out] at ho3
      have Ho3 := Lib.hid ho3
      have Hb3 := Lib.hid (((Hb.out.trans (hb2.mono Hb.out.size)).setCell (p := ⟨w.heap.size, k * 2, none⟩) (Nat.le_refl _) (.int .i64 x.1)).setCell (p := ⟨w.heap.size, k * 2 + 1, none⟩) (Nat.le_refl _) (.int .i64 x.2))
      clear ho2 hy ho3 hb2
      go_wp2
      go_roundw
      case rel => exact ⟨k + 1, by omega, by simp, Ho3.out, Hb3.out⟩
      case measure => simp [intOf]; omega
    · have e1 : es.take k ++ List.replicate (es.length - k) ((0 : Int), (0 : Int)) = es := by rw [take_all es hlt, show es.length - k = 0 by omega, List.replicate_zero, List.append_nil]
      rw [e1] at ho
      have Ho := Lib.hid ho
      have Hb := Lib.hid hb
      clear ho hb e1
      go_wp2
      go_ret
      exact ⟨_, rfl, Ho.out, Hb.out⟩
end Go.Proofs.Ytaplbmgnfdikdaa
