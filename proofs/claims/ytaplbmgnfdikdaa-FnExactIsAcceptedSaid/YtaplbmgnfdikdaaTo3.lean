import Derived.Test.YtaplbmgnfdikdaaTo2
namespace Go.Proofs.Ytaplbmgnfdikdaa
open Go.RowKit
section
variable {ops : Array Oper} {rest : List Oper} {o : Oper} {a : Act} {Q : Exit → Act → World → Prop}
theorem mk_rows (w : World) (hg : o.guard = none) (l c : Operand) (hop : o.op = Op.makeSlice 29 l c) (n : Nat) (hl : a.eval l = .int .i64 (n : Int)) (hc : a.eval c = .int .i64 (n : Int)) (hn : n ≤ 1048576)
    (hK : ∀ w', OwnEE w' w.heap.size (.slice (some ⟨w.heap.size, 0, none⟩) n n) (List.replicate n []) [w.heap.size] → Below w.heap.size w w' → wpList Try.prog ops Q rest (a.put o.dst (.slice (some ⟨w.heap.size, 0, none⟩) n n)) w') : wpList Try.prog ops Q (o :: rest) a w := by
  obtain ⟨i0, hi, hz0, hz1, hz2⟩ := info_parts es_info
  refine wpList_plain hg fun K hK' => ?_
  have hr := run_make (P := Try.prog) w 29 79 i0 (.slice none 0 0) Try.underlying29 hi hz0 .i64 .i64 n n (by omega) (Int.le_refl _) (by rw [hz2]; omega) (by omega)
  rw [hz1] at hr
  simp only [Int.toNat_natCast] at hr
  rw [show (Value.slice none 0 0).cells = #[Value.slice none 0 0] from rfl, made_rep] at hr
  unfold Oper.wp
  simp only [execOp, hop, hl, hc, Sem.run_bind, hr, Result.andThen_ok, Sem.run_pure]
  refine hK' _ _ (hK _ ?_ (below_alloc _ _))
  have := OwnRows.made (R := OwnE) (e := 79) n (by simp [maxLen]; omega) ownE_nil w
  rw [List.toArray_replicate] at this
  exact this
end
set_option maxHeartbeats 2000000 in
theorem toEndSS_any (v : Value) (ess : List (List (Int × Int))) (w : World) (h : EndSS w v ess) (hl : szEE ess ≤ 1048576) :
    Calls Try.prog 58 #[v] w fun e w' => ∃ g S, e = .returned (.slice (some ⟨g, 0, none⟩) ess.length ess.length) ∧ OwnEE w' w.heap.size (.slice (some ⟨g, 0, none⟩) ess.length ess.length) ess S ∧ Below w.heap.size w w' := by
  obtain ⟨A, c, rfl, hlc, hm, hA⟩ := h
  unfold maxLen at hm
  have HA := Lib.hid hA
  clear hA
  have hl1 : ess.length ≤ 1048576 := by unfold szEE at hl; omega
  have Hl := Lib.hid hl
  clear hl
  go_enter Try.func58, Try.ntmps58
  go_wp2_with (at_make; refine mk_rows _ rfl _ _ rfl ess.length rfl rfl hl1 ?_; intro w1 ho1 hb1)
  go_loopw [4] (fun i wr => ∃ (k : Nat) (S : List Nat), k ≤ ess.length ∧ i = .int .i64 k ∧ OwnEE wr w.heap.size (.slice (some ⟨w.heap.size, 0, none⟩) ess.length ess.length) (ess.take k ++ List.replicate (ess.length - k) []) S ∧ Below w.heap.size w wr) (fun i _ => ess.length - (intOf i).toNat)
  case atStart => exact ⟨0, _, Nat.zero_le _, rfl, by simpa using ho1, hb1⟩
  case round =>
    obtain ⟨k, S, hk, rfl, ho, hb⟩ := hrel
    clear ho1 hb1
    by_cases hlt : k < ess.length
    · obtain ⟨x, hx⟩ := getx ess k hlt
      obtain ⟨b, off, u, rfl, hc1, hu⟩ := HA.out k x hx
      have k1 := bc hb hc1
      have Hu := Lib.hid (hu.keep hb)
      have Ho := Lib.hid ho
      have Hb := Lib.hid hb
      have Hx := Lib.hid hx
      have Hxl : Hid (x.length ≤ 1048576) := by
        have h1 := szRows_snoc hx
        have h2 := szRows_le ess (k + 1)
        have h3 := Hl.out
        unfold szEE at h3
        exact show _ ≤ _ by omega
      clear hx hc1 ho hb hu
      go_wp2_with fail
      refine (toEndS_any _ x _ Hu.out Hxl.out).mono ?_
      rintro e w2 ⟨g, rfl, hr2, hb2⟩
      have ho2 := lawEE.keep Ho.out hb2
      obtain ⟨y, hy⟩ := getx (ess.take k ++ List.replicate (ess.length - k) []) k (by simp; omega)
      obtain ⟨_, _, y1, f1, _⟩ := OwnRows.at_ ho2 hy
      have hS := lawEE.range Ho.out
      have hg2 := (lawE.range hr2 g (by simp)).1
      obtain ⟨S3, ho3, _⟩ := OwnRows.store lawE ho2 k (lawE.mono hr2 Hb.out.size) (fun j hj hjS => by simp at hj; subst hj; have := (hS _ hjS).2; omega)
      rw [set_fill [] ess k x Hx.out] at ho3
      have Ho3 := Lib.hid ho3
      have Hb3 := Lib.hid ((Hb.out.trans (hb2.mono Hb.out.size)).setCell (p := ⟨w.heap.size, k, none⟩) (Nat.le_refl _) (.slice (some ⟨g, 0, none⟩) x.length x.length))
      clear ho2 hy ho3 hb2 hr2 hS
      go_wp2
      go_roundw
      case rel => exact ⟨k + 1, S3, by omega, by simp, Ho3.out, Hb3.out⟩
      case measure => simp [intOf]; omega
    · have e1 : ess.take k ++ List.replicate (ess.length - k) ([] : List (Int × Int)) = ess := by rw [List.take_of_length_le (by omega), show ess.length - k = 0 by omega, List.replicate_zero, List.append_nil]
      rw [e1] at ho
      have Ho := Lib.hid ho
      have Hb := Lib.hid hb
      clear ho hb e1
      go_wp2
      go_ret
      exact ⟨_, S, rfl, Ho.out, Hb.out⟩
end Go.Proofs.Ytaplbmgnfdikdaa
