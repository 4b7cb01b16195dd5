import Derived.Test.YtdmadigjdlbhiaaWired3
namespace Go.Proofs.Ytdmadigjdlbhiaa
open Go.RowKit
theorem cyc_ok : ∀ k : Nat, 3 ≤ k → k ≤ 40 → netOk (cycNet k) = true := by
  have h : ∀ k : Fin 41, 3 ≤ k.1 → netOk (cycNet k.1) = true := by decide +kernel
  exact fun k h1 h2 => h ⟨k, by omega⟩ h1
set_option maxHeartbeats 1000000 in
theorem cycleNetwork_ok (k : Nat) (hk0 : 3 ≤ k) (hk : k ≤ 40) (w : World) : Calls Try.prog 48 #[.int .i64 k] w (NewNetT w (cycNet k)) := by
  have Hok := Lib.hid (cyc_ok k hk0 hk)
  go_enter Try.func48, Try.ntmps48
  go_wp2_with fail
  refine (wired_cyc k w.heap.size (by omega) hk _ (by simp) Hok.out).mono ?_
  rintro e w1 ⟨ve, vi, vn, S, rfl, ho, hb⟩
  have hres := Box3.new (w.alloc (.cells #[.int .i64 k] 3)) (.slice none 0 0) (.slice none 0 0) (.slice none 0 0) 39
  simp only [World.size_alloc] at hres
  obtain ⟨hr0, hr1, hr2, hf0, hf1, hf2⟩ := (hres.below hb (by simp)).cells
  have hbw : Below w.heap.size w w1 := ((below_alloc w _).alloc (by simp) _).trans (hb.mono (by simp; omega))
  obtain ⟨⟨A1, c1, hve, _, _, _⟩, ⟨A2, c2, hvi, _, _, _⟩, ⟨A3, c3, hvn, _, _, _⟩⟩ := ho.read
  have hfin : Hid (∀ x y z, OwnNet (((w1.setCell ⟨w.heap.size + 1, 0, none⟩ x).setCell ⟨w.heap.size + 1, 1, none⟩ y).setCell ⟨w.heap.size + 1, 2, none⟩ z) w.heap.size ve vi vn (cycNet k) S ∧ Below w.heap.size w (((w1.setCell ⟨w.heap.size + 1, 0, none⟩ x).setCell ⟨w.heap.size + 1, 1, none⟩ y).setCell ⟨w.heap.size + 1, 2, none⟩ z)) := fun x y z => by
    refine ⟨(ho.stable fun j hj => ?_).mono (by simp; omega), ((hbw.setCell (by simp) _).setCell (by simp) _).setCell (by simp) _⟩
    have := (ho.range j hj).1
    simp at this
    rw [Below.heap_setCell _ _ _ _ (by show j ≠ w.heap.size + 1; omega), Below.heap_setCell _ _ _ _ (by show j ≠ w.heap.size + 1; omega), Below.heap_setCell _ _ _ _ (by show j ≠ w.heap.size + 1; omega)]
  subst hve hvi hvn
  clear ho hb hbw hres
  go_wp2
  refine bodyPost_ret (v := .tuple #[.agg #[.slice A1 (cycNet k).ends.length c1, .slice A2 (cycNet k).ids.length c2, .slice A3 (cycNet k).inputs.length c3], .bool true]) (by simp [results, Try.results48, go_sem, *]) rfl ?_
  exact ⟨_, _, _, S, rfl, (hfin.out _ _ _).1, (hfin.out _ _ _).2⟩
theorem forged_end {w W w3 : World} {ve vi vn u : Value} {n : Net} {xs : List Int} {S : List Nat} {b : Nat} (ho : OwnNet W b ve vi vn n S) (ho3 : Own w3 W.heap.size u xs) (hb3 : Below W.heap.size W w3)
    (hrg : ∀ j ∈ S, w.heap.size + 1 ≤ j ∧ j < W.heap.size) (hb : Below w.heap.size w W) (hlt : w.heap.size < W.heap.size) (hbb : w.heap.size ≤ b) (x y z : Value) :
    OwnNet (((w3.setCell ⟨w.heap.size, 0, none⟩ x).setCell ⟨w.heap.size, 1, none⟩ y).setCell ⟨w.heap.size, 2, none⟩ z) w.heap.size ve vi vn n S ∧
    Own (((w3.setCell ⟨w.heap.size, 0, none⟩ x).setCell ⟨w.heap.size, 1, none⟩ y).setCell ⟨w.heap.size, 2, none⟩ z) w.heap.size u xs ∧ (∀ j ∈ S, u.ownBlock ≠ some j) ∧
    Below w.heap.size w (((w3.setCell ⟨w.heap.size, 0, none⟩ x).setCell ⟨w.heap.size, 1, none⟩ y).setCell ⟨w.heap.size, 2, none⟩ z) := by
  have hne : ∀ j, j ≠ w.heap.size → (((w3.setCell ⟨w.heap.size, 0, none⟩ x).setCell ⟨w.heap.size, 1, none⟩ y).setCell ⟨w.heap.size, 2, none⟩ z).heap[j]? = w3.heap[j]? := fun j hj => by
    rw [Below.heap_setCell _ _ _ _ (by exact hj), Below.heap_setCell _ _ _ _ (by exact hj), Below.heap_setCell _ _ _ _ (by exact hj)]
  refine ⟨?_, ?_, fun j hj e => ?_, (((hb.trans (hb3.mono (by omega))).setCell (Nat.le_refl _) _).setCell (Nat.le_refl _) _).setCell (Nat.le_refl _) _⟩
  · have h1 := (ho.keep hb3).stable fun j hj => hne j (by have := (hrg j hj).1; omega)
    exact h1.mono hbb
  · refine Own.mono (base := W.heap.size) (ownsRow_stable ho3 fun j hj => hne j ?_) (by omega)
    have := (World.ownsRow.lt ho3 j (by simpa using hj)).1
    omega
  · have h1 := (World.ownsRow.lt ho3 j e).1
    have h2 := (hrg j hj).2
    omega
set_option maxHeartbeats 2000000 in
theorem implForged (m : Int) (w : World) : Calls Try.prog 24 #[.int .i64 m] w (NewForged w (forged m)) := by
  cases hm : inB 3 40 m
  · rw [show forged m = (⟨[], [], []⟩, [], false) by simp [forged, hm]]
    go_enter Try.func24, Try.ntmps24
    go_wp2_with (go_at_call 38; refine (within_b _ _ _ _).mono ?_; rintro e w' ⟨rfl, rfl⟩)
    refine bodyPost_ret (v := .tuple #[.agg #[.slice none 0 0, .slice none 0 0, .slice none 0 0], .slice none 0 0, .bool false]) (by simp [results, Try.results24, go_sem]) rfl ?_
    exact ⟨_, _, _, _, [], rfl, ownNet_nil _ _, own_nil _ _, fun j hj => by simp at hj, below_alloc _ _⟩
  · obtain ⟨h1, h2⟩ := inB_iff.1 hm
    obtain ⟨k, rfl⟩ : ∃ k : Nat, m = k := ⟨m.toNat, by omega⟩
    rw [show forged k = (cycNet k, upto k, true) by simp [forged, hm]]
    go_enter Try.func24, Try.ntmps24
    go_wp2_with (go_at_call 38; refine (within_b _ _ _ _).mono ?_; rintro e w' ⟨rfl, rfl⟩)
    refine (cycleNetwork_ok k (by omega) (by omega) _).mono ?_
    rintro e w1 ⟨ve, vi, vn, S, rfl, ho, hb⟩
    have hres := (Box3.new w (.slice none 0 0) (.slice none 0 0) (.slice none 0 0) 39).below hb (by simp)
    have hsz : w.heap.size + 1 ≤ w1.heap.size := by have := hb.size; simpa using this
    obtain ⟨⟨A1, c1, hve, _, _, _⟩, ⟨A2, c2, hvi, _, _, _⟩, ⟨A3, c3, hvn, _, _, _⟩⟩ := ho.read
    subst hve hvi hvn
    have hb0 := below_alloc w1 (.cells #[.slice A1 (cycNet k).ends.length c1, .slice A2 (cycNet k).ids.length c2, .slice A3 (cycNet k).inputs.length c3] 39)
    have Hx1 := Lib.hid (Box3.new w1 (.slice A1 (cycNet k).ends.length c1) (.slice A2 (cycNet k).ids.length c2) (.slice A3 (cycNet k).inputs.length c3) 39)
    have Hr1 := Lib.hid (hres.below hb0 hres.lt)
    have Ho := Lib.hid (ho.keep hb0)
    have Hb := Lib.hid (((below_alloc w _).trans (hb.mono (by simp))).trans (hb0.mono (by omega)))
    have hrg : Hid (∀ j ∈ S, w.heap.size + 1 ≤ j ∧ j < w1.heap.size) := fun j hj => by have := ho.range j hj; simpa using this
    obtain ⟨x0, x1, x2, _⟩ := Hx1.out.cells
    clear ho hb hb0 hres
    go_wp2
    have Hx2 := Lib.hid (show Box3 (w1.alloc (.cells #[.slice A1 (cycNet k).ends.length c1, .slice A2 (cycNet k).ids.length c2, .slice A3 (cycNet k).inputs.length c3] 39)).drew _ _ _ _ from Hx1.out)
    have Hr2 := Lib.hid (show Box3 (w1.alloc (.cells #[.slice A1 (cycNet k).ends.length c1, .slice A2 (cycNet k).ids.length c2, .slice A3 (cycNet k).inputs.length c3] 39)).drew _ _ _ _ from Hr1.out)
    go_region_law (first
        | (go_simp; go_at_call 49; refine (numbersTo_any k (by omega) _).mono ?_; rintro e w3 ⟨u, rfl, ho3, hb3⟩; obtain ⟨y0, y1, y2, _⟩ := (Hx2.out.below hb3 Hx2.out.lt).cells; obtain ⟨z0, z1, z2, f0, f1, f2⟩ := (Hr2.out.below hb3 Hr2.out.lt).cells; have HF := Lib.hid (forged_end (Ho.out.drew) ho3 hb3 (fun j hj => ⟨(hrg.out j hj).1, by have := (hrg.out j hj).2; simp; omega⟩) Hb.out.drew (by simp; omega) (by simp)); clear ho3 hb3))
    all_goals (
      go_wp2
      refine bodyPost_ret (v := .tuple #[.agg #[.slice A1 (cycNet k).ends.length c1, .slice A2 (cycNet k).ids.length c2, .slice A3 (cycNet k).inputs.length c3], u, .bool true]) (by simp [results, Try.results24, go_sem, *]) rfl ?_
      exact ⟨_, _, _, _, S, rfl, (HF.out _ _ _).1, (HF.out _ _ _).2.1, (HF.out (.bool true) (.bool true) (.bool true)).2.2.1, (HF.out _ _ _).2.2.2⟩)
end Go.Proofs.Ytdmadigjdlbhiaa
