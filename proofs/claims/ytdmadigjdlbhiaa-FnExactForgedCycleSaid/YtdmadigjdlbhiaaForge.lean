import Derived.Test.YtdmadigjdlbhiaaCycle
import Derived.Test.YtdmadigjdlbhiaaW3
import Derived.Deep.AppendLies
namespace Go.Proofs.Ytdmadigjdlbhiaa
open Go.RowKit
theorem atNumber_b (n : Int) (w : World) : Calls Try.prog 46 #[.int .i64 n] w fun e w' => e = .returned (.bool (inB 3 40 n)) ∧ w = w' := by
  go_enter Try.func46, Try.ntmps46
  go_wp2_with fail
  refine (l1In_b _ _ _ _).mono ?_
  rintro e w' ⟨rfl, rfl⟩
  go_wp2
  go_ret
  exact ⟨rfl, rfl⟩
def upto (n : Nat) : List Int := (List.range n).map Int.ofNat
theorem upto_len (n : Nat) : (upto n).length = n := by simp [upto]
theorem upto_get {n k : Nat} (h : k < n) : (upto n)[k]? = some (k : Int) := by simp [upto, h]
theorem upto_snoc (n : Nat) : upto (n + 1) = upto n ++ [(n : Int)] := by simp [upto, List.range_succ]
set_option maxHeartbeats 1000000 in
theorem numbersTo_any (n : Nat) (hn : n ≤ 1000000) (w : World) : Calls Try.prog 49 #[.int .i64 n] w fun e w' => ∃ u, e = .returned u ∧ Own w' w.heap.size u (upto n) ∧ Below w.heap.size w w' := by
  go_enter Try.func49, Try.ntmps49
  go_wp2_with (at_make; refine mk_ints _ rfl _ _ rfl _ _ n rfl rfl rfl rfl (by omega) ?_; intro w1 ho1 hb1 hz1)
  go_loopw [9] (fun i wr => ∃ k : Nat, k ≤ n ∧ i = .int .i64 k ∧ Own wr w.heap.size (.slice (some ⟨w.heap.size, 0, none⟩) n n) ((upto n).take k ++ List.replicate (n - k) 0) ∧ Below w.heap.size w wr) (fun i _ => n - (intOf i).toNat)
  case atStart => exact ⟨0, Nat.zero_le _, rfl, by simpa using ho1, hb1⟩
  case round =>
    obtain ⟨k, hk, rfl, ho, hb⟩ := hrel
    clear ho1 hb1 hz1
    have Ho := Lib.hid ho
    have Hb := Lib.hid hb
    by_cases hlt : k < n
    · have hf := ho.free k
      obtain ⟨y, hy⟩ := getx ((upto n).take k ++ List.replicate (n - k) 0) k (by simp [upto_len]; omega)
      have hc2 := ho.cell hy
      clear hy ho hb
      go_wp2
      go_roundw
      case rel =>
        refine ⟨k + 1, by omega, by go_num, ?_, Hb.out.setCell (Nat.le_refl _) _⟩
        have := Ho.out.set (k := k) (k : Int)
        have e := set_fill 0 (upto n) k (k : Int) (upto_get hlt)
        rw [upto_len] at e
        rwa [e] at this
      case measure => simp [intOf]; omega
    · go_wp2
      go_ret
      refine ⟨_, rfl, ?_, Hb.out⟩
      have := Ho.out
      rwa [take_all (upto n) (by rw [upto_len]; exact hlt), show n - k = 0 by omega, List.replicate_zero, List.append_nil] at this
/-- append of one integer to a row of its own, in a plain region -/
theorem app_int {w : World} {ops : Array Oper} {rest : List Oper} {o : Oper} {a : Act} {Q : Exit → Act → World → Prop} (hgd : o.guard = none) (s x : Operand)
    (ho : o.op = .call { callee := .builtin .append, args := #[s, x], argTypes := #[25, 25] }) {base : Nat} {v : Value} {xs : List Int} (hs : a.eval s = v) (h : Own w base v xs) (b : Nat) (y : Int)
    (hx : a.eval x = .slice (some ⟨b, 0, none⟩) 1 1) (hc : w.cell? ⟨b, 0, none⟩ = some (.int .i64 y)) (hl : xs.length + 1 ≤ 17592186044416) (hbase : base ≤ w.heap.size)
    (k : ∀ g cap w', Own w' base (.slice (some ⟨g, 0, none⟩) (xs.length + 1) cap) (xs ++ [y]) → w.grownBy w' v.ownBlock → (v.ownBlock = some g ∨ g = w.heap.size) → g < w'.heap.size → wpList Try.prog ops Q rest (a.put o.dst (.slice (some ⟨g, 0, none⟩) (xs.length + 1) cap)) w') : wpList Try.prog ops Q (o :: rest) a w := by
  obtain ⟨i0, hi, hz0, hz1, hz2⟩ := info_parts int_info
  refine wpList_append_lies w hgd s x 25 ho base 3 i0 (.int .i64 0) 1 8 Try.underlying25 hi hz0 hz1 hz2 rfl (by decide) v xs.length (xs.map (Value.int .i64)) hs h ⟨b, 0, none⟩ 1 1 [.int .i64 y] hx rfl
    (by intro j u hj; match j, hj with | 0, hj => (simp at hj; subst hj; simpa [Addr.add] using hc) | j + 1, hj => simp at hj) (by simp [Value.oneCell']) (by omega) (by unfold maxLen; omega) (by omega) hbase w.heap.size rfl ?_
  intro g cap w' h1 h2 h3 h4
  refine k g cap w' ?_ h2 h3 h4
  unfold Own
  simpa using h1
theorem Box3.grown {w w' : World} {b : Nat} {x y z : Value} {row : Option Nat} (h : Box3 w b x y z) (hg : w.grownBy w' row) (hr : row ≠ some b) : Box3 w' b x y z := by
  have := h.lt
  obtain ⟨r, h⟩ := h
  exact ⟨r, (hg.block b this (fun e => hr e.symm)).trans h⟩
/-- what ForgedCycle answers -/
def forged (m : Int) : Net × List Int × Bool := if inB 3 40 m = true then (cycNet m.toNat, upto m.toNat, true) else (⟨[], [], []⟩, [], false)
/-- a new network with integers and a word came back -/
def NewForged (w : World) (p : Net × List Int × Bool) (e : Ending) (w' : World) : Prop :=
  ∃ ve vi vn u S, e = .returned (.tuple #[.agg #[ve, vi, vn], u, .bool p.2.2]) ∧ OwnNet w' w.heap.size ve vi vn p.1 S ∧ Own w' w.heap.size u p.2.1 ∧ (∀ j ∈ S, u.ownBlock ≠ some j) ∧ Below w.heap.size w w'
theorem ownNet_nil (w : World) (base : Nat) : OwnNet w base (.slice none 0 0) (.slice none 0 0) (.slice none 0 0) ⟨[], [], []⟩ [] :=
  ⟨[], [], [], ⟨[], [], World.ownsRow_nil w base _ _, rfl, fun k u x T h => by simp at h, rfl, by simp⟩, ownI_nil _ _, ownI_nil _ _, rfl, by simp⟩
set_option maxHeartbeats 2000000 in
theorem specForged (m : Int) (w : World) : Calls Try.prog 23 #[.int .i64 m] w (NewForged w (forged m)) := by
  cases hm : inB 3 40 m
  · rw [show forged m = (⟨[], [], []⟩, [], false) by simp [forged, hm]]
    go_enter Try.func23, Try.ntmps23
    go_wp2_with (go_at_call 46; refine (atNumber_b _ _).mono ?_; rintro e w' ⟨rfl, rfl⟩)
    refine bodyPost_ret (v := .tuple #[.agg #[.slice none 0 0, .slice none 0 0, .slice none 0 0], .slice none 0 0, .bool false]) (by simp [results, Try.results23, go_sem]) rfl ?_
    exact ⟨_, _, _, _, [], rfl, ownNet_nil _ _, own_nil _ _, fun j hj => by simp at hj, below_alloc _ _⟩
  · obtain ⟨h1, h2⟩ := inB_iff.1 hm
    obtain ⟨k, rfl⟩ : ∃ k : Nat, m = k := ⟨m.toNat, by omega⟩
    rw [show forged k = (cycNet k, upto k, true) by simp [forged, hm]]
    go_enter Try.func23, Try.ntmps23
    go_wp2_with (go_at_call 46; refine (atNumber_b _ _).mono ?_; rintro e w' ⟨rfl, rfl⟩)
    go_loopw [5, 6] (fun u i wr => ∃ v : Nat, v ≤ k ∧ i = .int .i64 v ∧ Own wr (w.heap.size + 1) u (upto v) ∧ Box3 wr w.heap.size (.slice none 0 0) (.slice none 0 0) (.slice none 0 0) ∧ Below w.heap.size w wr) (fun _ i _ => k - (intOf i).toNat)
    case atStart => exact ⟨0, Nat.zero_le _, rfl, (show upto 0 = [] from rfl) ▸ own_nil _ _, Box3.new _ _ _ _ _, below_alloc _ _⟩
    case round =>
      obtain ⟨v, hv, rfl, ho, hx, hb⟩ := hrel
      have hlo : ∀ j, u5.ownBlock = some j → w.heap.size + 1 ≤ j := fun j hj => (World.ownsRow.lt ho j hj).1
      have Ho := Lib.hid ho
      have Hx := Lib.hid hx
      have Hb := Lib.hid hb
      have Hlo := Lib.hid hlo
      have hlt2 := hx.lt
      clear ho hx hb hlo
      by_cases hlt : v < k
      · go_wp2_with (at_builtin; refine app_int rfl _ _ rfl rfl (Ho.out.keep (below_alloc wr _)) wr.heap.size v rfl (by simp) (by rw [upto_len]; omega) (by simp; omega) ?_; intro g c w2 ho2 hg2 _ _)
        rw [← upto_snoc] at ho2
        have hb2 : Below w.heap.size w w2 := (Hb.out.trans ((below_alloc wr _).mono (by omega))).grown hg2 (by simp; omega) (fun j hj => by have := Hlo.out j hj; omega)
        have hx2 := (Hx.out.alloc (.cells #[.int .i64 v] 3)).grown hg2 (fun e => by have := Hlo.out _ e; omega)
        have Ho2 := Lib.hid ho2
        have Hb2 := Lib.hid hb2
        have Hx2 := Lib.hid hx2
        clear ho2 hb2 hg2 hx2
        go_wp2
        go_roundw
        case rel => exact ⟨v + 1, by omega, by simp, Ho2.out, Hx2.out, Hb2.out⟩
        case measure => simp [intOf]; omega
      · obtain rfl : v = k := by omega
        go_wp2_with fail
        refine (buCycle_any v (by omega) (by omega) _).mono ?_
        rintro e w1 ⟨ve, vi, vn, S, rfl, ho1, hb1⟩
        obtain ⟨hr0, hr1, hr2, hf0, hf1, hf2⟩ := (Hx.out.below hb1 hlt2).cells
        have hfin : Hid (∀ x y z, OwnNet (((w1.setCell ⟨w.heap.size, 0, none⟩ x).setCell ⟨w.heap.size, 1, none⟩ y).setCell ⟨w.heap.size, 2, none⟩ z) w.heap.size ve vi vn (cycNet v) S ∧ Own (((w1.setCell ⟨w.heap.size, 0, none⟩ x).setCell ⟨w.heap.size, 1, none⟩ y).setCell ⟨w.heap.size, 2, none⟩ z) w.heap.size u5 (upto v) ∧ (∀ j ∈ S, u5.ownBlock ≠ some j) ∧ Below w.heap.size w (((w1.setCell ⟨w.heap.size, 0, none⟩ x).setCell ⟨w.heap.size, 1, none⟩ y).setCell ⟨w.heap.size, 2, none⟩ z)) := fun x y z => by
          have hne : ∀ j, j ≠ w.heap.size → (((w1.setCell ⟨w.heap.size, 0, none⟩ x).setCell ⟨w.heap.size, 1, none⟩ y).setCell ⟨w.heap.size, 2, none⟩ z).heap[j]? = w1.heap[j]? := fun j hj => by
            rw [Below.heap_setCell _ _ _ _ (by exact hj), Below.heap_setCell _ _ _ _ (by exact hj), Below.heap_setCell _ _ _ _ (by exact hj)]
          refine ⟨?_, ?_, ?_, (((Hb.out.trans (hb1.mono (by omega))).setCell (Nat.le_refl _) _).setCell (Nat.le_refl _) _).setCell (Nat.le_refl _) _⟩
          · exact (ho1.stable fun j hj => hne j (by have := (ho1.range j hj).1; omega)).mono (by omega)
          · refine Own.mono (base := w.heap.size + 1) (ownsRow_stable (Ho.out.keep hb1) fun j hj => hne j ?_) (by omega)
            have := Hlo.out j (by simpa using hj)
            omega
          · intro j hj e
            have h1 := (World.ownsRow.lt Ho.out j e).2
            have h2 := (ho1.range j hj).1
            omega
        obtain ⟨⟨A1, c1, rfl, _, _, _⟩, ⟨A2, c2, rfl, _, _, _⟩, ⟨A3, c3, rfl, _, _, _⟩⟩ := ho1.read
        clear ho1 hb1
        go_wp2
        refine bodyPost_ret (v := .tuple #[.agg #[.slice A1 (cycNet v).ends.length c1, .slice A2 (cycNet v).ids.length c2, .slice A3 (cycNet v).inputs.length c3], u5, .bool true]) (by simp [results, Try.results23, go_sem, *]) rfl ?_
        exact ⟨_, _, _, _, S, rfl, (hfin.out _ _ _).1, (hfin.out _ _ _).2.1, (hfin.out (.bool true) (.bool true) (.bool true)).2.2.1, (hfin.out _ _ _).2.2.2⟩
end Go.Proofs.Ytdmadigjdlbhiaa
