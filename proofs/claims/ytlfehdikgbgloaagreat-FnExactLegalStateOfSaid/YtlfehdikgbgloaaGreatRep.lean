import Derived.Test.YtlfehdikgbgloaaGreatNear
import Derived.Test.YtlfehdikgbgloaaGreatChain
import Derived.Laws.CopyOwn
import Derived.Shelf.Bits.Mul64
namespace Go.Proofs.YtlfehdikgbgloaaGreat
open Go.RowKit
def repRow (x : Int) (N j : Nat) : List Value := List.replicate j (.int .i64 x) ++ List.replicate (N - j) (.int .i64 0)
theorem repRow_len {x : Int} {N j : Nat} (h : j ≤ N) : (repRow x N j).length = N := by simp [repRow]; omega
theorem repRow_splice {x : Int} {N j m : Nat} (h : j + m ≤ N) : splice (repRow x N j) j (List.replicate m (.int .i64 x)) = repRow x N (j + m) := by
  unfold splice repRow
  rw [List.take_append_of_le_length (by simp), List.take_replicate, Nat.min_self, List.length_replicate, List.drop_append, List.drop_replicate, List.length_replicate, List.drop_replicate, show j - (j + m) = 0 by omega, show N - j - (j + m - j) = N - (j + m) by omega, List.replicate_zero, List.nil_append, ← List.append_assoc, List.replicate_append_replicate]
theorem own_rep {w : World} {base g N : Nat} {x : Int} (h : w.heap[g]? = some (.cells (repRow x N N).toArray 3 (0, 0))) (hb : base ≤ g) (hN : N ≤ 1000000) : Own w base (.slice (some ⟨g, 0, none⟩) N N) (List.replicate N x) := by
  unfold Own
  refine ⟨by simp, .inr ⟨g, N, _, by simp, hb, h, by simp, by unfold maxLen; omega, by simp [repRow], ?_⟩⟩
  simp [repRow]
theorem repRow_cell {w : World} {g N j : Nat} {x : Int} (h : w.heap[g]? = some (.cells (repRow x N j).toArray 3 (0, 0))) {i : Nat} (hi : i < j) : w.cell? ⟨g, i, none⟩ = some (.int .i64 x) := by
  have : (repRow x N j)[i]? = some (.int .i64 x) := by
    unfold repRow
    rw [List.getElem?_append_left (by simpa using hi)]
    simp [hi]
  simp [World.cell?, h, this]
theorem rep_src {w : World} {b : Nat} {x : Int} (h : w.cell? ⟨b, 0, none⟩ = some (.int .i64 x)) {j : Nat} {v : Value} (hj : (List.replicate 1 (Value.int .i64 x))[j]? = some v) : w.cell? ((⟨b, 0, none⟩ : Addr).add j) = some v := by
  have h1 := lt_of_get hj
  simp at h1
  subst h1
  simp at hj
  subst hj
  rw [Go.Addr.add_lit]
  exact h
theorem rep_src2 {w : World} {g N j m : Nat} {x : Int} (h : w.heap[g]? = some (.cells (repRow x N j).toArray 3 (0, 0))) (hm : m ≤ j) {i : Nat} {v : Value} (hi : (List.replicate m (Value.int .i64 x))[i]? = some v) : w.cell? ((⟨g, 0, none⟩ : Addr).add i) = some v := by
  have h1 := lt_of_get hi
  rw [List.length_replicate] at h1
  rw [List.getElem?_replicate, if_pos h1] at hi
  rw [← Option.some.inj hi, Go.Addr.add_lit, Nat.zero_add]
  exact repRow_cell h (by omega)
set_option maxRecDepth 100000 in
set_option maxHeartbeats 4000000 in
theorem repeat1_any (b c : Nat) (x : Int) (N : Nat) (w : World) (hN : 1 ≤ N) (hN2 : N ≤ 1000000) (hc : w.cell? ⟨b, 0, none⟩ = some (.int .i64 x)) :
    Calls Tryz.prog 140 #[.slice (some ⟨b, 0, none⟩) 1 c, .int .i64 N] w fun e w' => ∃ u, e = .returned u ∧ Own w' w.heap.size u (List.replicate N x) ∧ Below w.heap.size w w' := by
  have e1 : IntKind.u64.wrap (N : Int) = N := IntWalk.u64_in _ (by omega)
  have hm := Tryz.bits_Mul 1 N (by omega) (by omega) w
  rw [show (1 * N / 18446744073709551616 : Nat) = 0 by omega, show (1 * N % 18446744073709551616 : Nat) = N by omega] at hm
  have Hm := Lib.hid hm
  have e2 : IntKind.i64.wrap (N : Int) = N := wr64 _ (by omega) (by omega)
  have m2 := run_mk_ints N hN2
  have Hc := Lib.hid hc
  have hn0 : ¬ ((N : Int) < 0) := by omega
  have hbig : ¬ (9223372036854775807 < (N : Int)) := by omega
  clear hm hc
  go_enter Tryz.func140, Tryz.ntmps140
  go_wp2_with fail
  refine Hm.out.mono ?_
  rintro e w1 ⟨rfl, rfl⟩
  have HG2 : Hid ((w1.alloc (.cells (Array.replicate N (Value.int .i64 0)) 3)).heap[w1.heap.size]? = some (.cells (repRow x N 0).toArray 3 (0, 0))) := by
    show (w1.heap.push _)[w1.heap.size]? = _
    rw [Array.getElem?_push_size]
    simp [repRow]
  go_wp2_with (refine wpList_copy_splice rfl _ _ 23 23 rfl 3 Tryz.underlying23 (by kernel_rfl) (some ⟨w1.heap.size, 0, none⟩) (some ⟨b, 0, none⟩) N N 1 c rfl rfl w1.heap.size 0 (repRow x N 0) 3 HG2.out (List.replicate 1 (.int .i64 x)) (by rw [List.length_replicate]; exact (Nat.min_eq_left hN).symm) (fun _ => ⟨rfl, _, rfl, fun j v hj => rep_src (bc (below_alloc _ _) Hc.out) hj⟩) (by rw [repRow_len (Nat.zero_le _), List.length_replicate]; omega) (by simp [Value.oneCell']) w1.heap.size w1 (below_alloc _ _) (Nat.le_refl _) ?_; intro w3 hg3 hb3)
  obtain ⟨g, hg⟩ : ∃ g, g = w1.heap.size := ⟨_, rfl⟩
  have Hg := Lib.hid hg
  rw [← hg] at hg3 ⊢
  clear hg
  have HG3 : Hid (w3.heap[g]? = some (.cells (repRow x N 1).toArray 3 (0, 0))) := by
    have := hg3.out
    rw [show List.replicate 1 (Value.int .i64 x) = List.replicate 1 (.int .i64 x) from rfl, repRow_splice (by omega)] at this
    exact this
  have HB3 := Lib.hid hb3
  clear hg3 hb3
  go_wp2
  go_loopw [8] (fun nv wr => ∃ j : Nat, 1 ≤ j ∧ j ≤ N ∧ nv = .int .i64 j ∧ wr.heap[g]? = some (.cells (repRow x N j).toArray 3 (0, 0)) ∧ Below w1.heap.size w1 wr) (fun nv _ => N - (intOf nv).toNat)
  case atStart => exact ⟨1, Nat.le_refl _, hN, rfl, HG3.out, HB3.out⟩
  case round =>
    obtain ⟨j, hj1, hj, rfl, hgr, hb⟩ := hrel
    have HG := Lib.hid hgr
    have HB := Lib.hid hb
    clear hgr hb
    by_cases hlt : j < N
    · obtain ⟨m, hm⟩ : ∃ m, m = min j (N - j) := ⟨_, rfl⟩
      have hm1 : 1 ≤ m := by omega
      have hm2 : j + m ≤ N := by omega
      have hmj : m ≤ j := by omega
      have hNj : ¬ N = j := by omega
      have Hmm := Lib.hid hm
      clear hm
      have m3 : IntKind.i64.wrap ((j : Int) + m) = (j : Int) + m := wr64 _ (by omega) (by omega)
      have hs0 : Since w1 wr := HB.out
      go_upto_region 9 with (fail)
      refine wp_region_chain0 (w0 := w1) 9 [false, false, false, false, false, false, false, true, true] (by kernel_rfl) (by kernel_rfl) (hs0) ?_
      simp only [selF, selT, List.take_succ_cons, List.take_zero, List.drop_succ_cons, List.drop_zero]
      refine pflow_val (v := ?_) rfl ?_ ?_; rotate_left; (intro W hW; go_simp; with_reducible rfl)
      simp only [Act.put, List.setIfInBounds_toArray, List.set_cons_succ, List.set_cons_zero]
      refine pflow_val (v := ?_) rfl ?_ ?_; rotate_left; (intro W hW; go_simp; with_reducible rfl)
      simp only [Act.put, List.setIfInBounds_toArray, List.set_cons_succ, List.set_cons_zero]
      refine pflow_val (v := ?_) rfl ?_ ?_; rotate_left; (intro W hW; go_simp; with_reducible rfl)
      simp only [Act.put, List.setIfInBounds_toArray, List.set_cons_succ, List.set_cons_zero]
      refine pflow_val (v := ?_) rfl ?_ ?_; rotate_left; (intro W hW; go_simp; with_reducible rfl)
      simp only [Act.put, List.setIfInBounds_toArray, List.set_cons_succ, List.set_cons_zero]
      refine pflow_val (v := ?_) rfl ?_ ?_; rotate_left; (intro W hW; go_simp; with_reducible rfl)
      simp only [Act.put, List.setIfInBounds_toArray, List.set_cons_succ, List.set_cons_zero]
      refine pflow_val (v := ?_) rfl ?_ ?_; rotate_left; (intro W hW; go_simp; with_reducible rfl)
      simp only [Act.put, List.setIfInBounds_toArray, List.set_cons_succ, List.set_cons_zero]
      refine pflow_val (v := ?_) rfl ?_ ?_; rotate_left; (intro W hW; go_simp; with_reducible rfl)
      simp only [Act.put, List.setIfInBounds_toArray, List.set_cons_succ, List.set_cons_zero]
      obtain ⟨W, hWd⟩ : ∃ W, W = World.drew wr := ⟨_, rfl⟩
      rw [← hWd]
      have hW : Since w1 W := by rw [hWd]; exact since_drew (hs0)
      refine tflow_of_wp (fun Q' HQ => ?_)
      (refine wpList_copy_splice rfl _ _ 23 23 rfl 3 Tryz.underlying23 (by kernel_rfl) (some ⟨g, j, none⟩) (some ⟨g, 0, none⟩) (N - j) (N - j) j N (by go_simp) (by go_simp) g j (repRow x N j) 3 (by rw [hWd]; exact HG.out) (List.replicate m (.int .i64 x)) (by rw [List.length_replicate]; exact Hmm.out) (fun _ => ⟨rfl, _, rfl, fun i v hi => rep_src2 (by rw [hWd]; exact HG.out) hmj hi⟩) (by rw [repRow_len hj]; simpa using hm2) (by simp [Value.oneCell']) w1.heap.size w1 hW (by rw [Hg.out]; exact Nat.le_refl _) ?_); intro w4 hg4 hb4; refine HQ _ _ hb4 ?_; replace hW : Since w1 w4 := hb4; simp only [List.length_replicate, goInt]
      (try simp only [Act.put, List.setIfInBounds_toArray, List.set_cons_succ, List.set_cons_zero])
      refine tflow_val (v := ?_) rfl ?_ hW ?_; rotate_left; (go_simp; with_reducible rfl)
      simp only [Act.put, List.setIfInBounds_toArray, List.set_cons_succ, List.set_cons_zero]
      simp only [TFlow]
      have HG4 : Hid (w4.heap[g]? = some (.cells (repRow x N (j + m)).toArray 3 (0, 0))) := by
        have := hg4.out
        rw [repRow_splice hm2] at this
        exact this
      have HB4 := Lib.hid hW
      clear hg4 hb4 hW hWd hs0
      go_wp2
      go_roundw
      case rel => exact ⟨j + m, by omega, hm2, by go_num, HG4.out, HB4.out⟩
      case measure => simp [intOf]; omega
    · obtain rfl : j = N := by omega
      go_wp2
      go_ret
      exact ⟨_, rfl, own_rep HG.out (by rw [Hg.out]; exact Nat.le_refl _) hN2, HB.out⟩
end Go.Proofs.YtlfehdikgbgloaaGreat
