/- Parts of the proof: walks of functions and plain laws. -/
import Derived.Test.YtfkmkpamdlhbgaaGreatP5
import Derived.Test.YtfkmkpamdlhbgaaGreatP7
import Derived.Laws.CopyOwn
import Derived.Shelf.Bits.Mul64
import Derived.Test.YtfkmkpamdlhbgaaGreatP9
import Derived.Test.YtfkmkpamdlhbgaaGreatP6
namespace Go.Proofs.YtfkmkpamdlhbgaaGreat
open Go.RowKit
def repRow (x : Int) (N j : Nat) : List Value := List.replicate j (.int .i64 x) ++ List.replicate (N - j) (.int .i64 0)
theorem repRow_len {x : Int} {N j : Nat} (h : j ≤ N) : (repRow x N j).length = N := by simp [repRow]; omega
theorem repRow_splice {x : Int} {N j m : Nat} (h : j + m ≤ N) : splice (repRow x N j) j (List.replicate m (.int .i64 x)) = repRow x N (j + m) := by
  unfold splice repRow
  rw [List.take_append_of_le_length (by simp), List.take_replicate, Nat.min_self, List.length_replicate, List.drop_append, List.drop_replicate, List.length_replicate, List.drop_replicate, show j - (j + m) = 0 by omega, show N - j - (j + m - j) = N - (j + m) by omega, List.replicate_zero, List.nil_append, ← List.append_assoc, List.replicate_append_replicate]
theorem own_rep {w : World} {base g N : Nat} {x : Int} (h : w.heap[g]? = some (.cells (repRow x N N).toArray 3 (0, 0))) (hb : base ≤ g) (hN : N ≤ 1000000) : Own w base (.slice (some ⟨g, 0, none⟩) N N) (List.replicate N x) := by
  unfold Own
  refine ⟨by simp, .inr ⟨g, N, _, by simp, hb, h, by simp, by unfold maxLen; omega, by simp [repRow], ?_⟩⟩
  simp [repRow]
theorem repRow_cell {w : World} {g N j : Nat} {x : Int} (h : w.heap[g]? = some (.cells (repRow x N j).toArray 3 (0, 0))) {i : Nat} (hi : i < j) : w.cell? ⟨g, i, none⟩ = some (.int .i64 x) := by
  have : (repRow x N j)[i]? = some (.int .i64 x) := by
    unfold repRow
    rw [List.getElem?_append_left (by simpa using hi)]
    simp [hi]
  simp [World.cell?, h, this]
theorem rep_src {w : World} {b : Nat} {x : Int} (h : w.cell? ⟨b, 0, none⟩ = some (.int .i64 x)) {j : Nat} {v : Value} (hj : (List.replicate 1 (Value.int .i64 x))[j]? = some v) : w.cell? ((⟨b, 0, none⟩ : Addr).add j) = some v := by
  have h1 := lt_of_get hj
  simp at h1
  subst h1
  simp at hj
  subst hj
  rw [Go.Addr.add_lit]
  exact h
theorem rep_src2 {w : World} {g N j m : Nat} {x : Int} (h : w.heap[g]? = some (.cells (repRow x N j).toArray 3 (0, 0))) (hm : m ≤ j) {i : Nat} {v : Value} (hi : (List.replicate m (Value.int .i64 x))[i]? = some v) : w.cell? ((⟨g, 0, none⟩ : Addr).add i) = some v := by
  have h1 := lt_of_get hi
  rw [List.length_replicate] at h1
  rw [List.getElem?_replicate, if_pos h1] at hi
  rw [← Option.some.inj hi, Go.Addr.add_lit, Nat.zero_add]
  exact repRow_cell h (by omega)
set_option maxRecDepth 100000 in
set_option maxHeartbeats 4000000 in
theorem repeat1_any (b c : Nat) (x : Int) (N : Nat) (w : World) (hN : 1 ≤ N) (hN2 : N ≤ 1000000) (hc : w.cell? ⟨b, 0, none⟩ = some (.int .i64 x)) :
    Calls Tryz.prog 102 #[.slice (some ⟨b, 0, none⟩) 1 c, .int .i64 N] w fun e w' => ∃ u, e = .returned u ∧ Own w' w.heap.size u (List.replicate N x) ∧ Below w.heap.size w w' := by
  have e1 : IntKind.u64.wrap (N : Int) = N := IntWalk.u64_in _ (by omega)
  have hm := Tryz.bits_Mul 1 N (by omega) (by omega) w
  rw [show (1 * N / 18446744073709551616 : Nat) = 0 by omega, show (1 * N % 18446744073709551616 : Nat) = N by omega] at hm
  have Hm := Lib.hid hm
  have e2 : IntKind.i64.wrap (N : Int) = N := wr64 _ (by omega) (by omega)
  have m2 := run_mk_ints N hN2
  have Hc := Lib.hid hc
  have hn0 : ¬ ((N : Int) < 0) := by omega
  have hbig : ¬ (9223372036854775807 < (N : Int)) := by omega
  clear hm hc
  go_enter Tryz.func102, Tryz.ntmps102
  go_wp2_with fail
  refine Hm.out.mono ?_
  rintro e w1 ⟨rfl, rfl⟩
  have HG2 : Hid ((w1.alloc (.cells (Array.replicate N (Value.int .i64 0)) 3)).heap[w1.heap.size]? = some (.cells (repRow x N 0).toArray 3 (0, 0))) := by
    show (w1.heap.push _)[w1.heap.size]? = _
    rw [Array.getElem?_push_size]
    simp [repRow]
  go_wp2_with (refine wpList_copy_splice rfl _ _ 25 25 rfl 3 Tryz.underlying25 (by kernel_rfl) (some ⟨w1.heap.size, 0, none⟩) (some ⟨b, 0, none⟩) N N 1 c rfl rfl w1.heap.size 0 (repRow x N 0) 3 HG2.out (List.replicate 1 (.int .i64 x)) (by rw [List.length_replicate]; exact (Nat.min_eq_left hN).symm) (fun _ => ⟨rfl, _, rfl, fun j v hj => rep_src (bc (below_alloc _ _) Hc.out) hj⟩) (by rw [repRow_len (Nat.zero_le _), List.length_replicate]; omega) (by simp [Value.oneCell']) w1.heap.size w1 (below_alloc _ _) (Nat.le_refl _) ?_; intro w3 hg3 hb3)
  obtain ⟨g, hg⟩ : ∃ g, g = w1.heap.size := ⟨_, rfl⟩
  have Hg := Lib.hid hg
  rw [← hg] at hg3 ⊢
  clear hg
  have HG3 : Hid (w3.heap[g]? = some (.cells (repRow x N 1).toArray 3 (0, 0))) := by
    have := hg3.out
    rw [show List.replicate 1 (Value.int .i64 x) = List.replicate 1 (.int .i64 x) from rfl, repRow_splice (by omega)] at this
    exact this
  have HB3 := Lib.hid hb3
  clear hg3 hb3
  go_wp2
  go_loopw [8] (fun nv wr => ∃ j : Nat, 1 ≤ j ∧ j ≤ N ∧ nv = .int .i64 j ∧ wr.heap[g]? = some (.cells (repRow x N j).toArray 3 (0, 0)) ∧ Below w1.heap.size w1 wr) (fun nv _ => N - (intOf nv).toNat)
  case atStart => exact ⟨1, Nat.le_refl _, hN, rfl, HG3.out, HB3.out⟩
  case round =>
    obtain ⟨j, hj1, hj, rfl, hgr, hb⟩ := hrel
    have HG := Lib.hid hgr
    have HB := Lib.hid hb
    clear hgr hb
    by_cases hlt : j < N
    · obtain ⟨m, hm⟩ : ∃ m, m = min j (N - j) := ⟨_, rfl⟩
      have hm1 : 1 ≤ m := by omega
      have hm2 : j + m ≤ N := by omega
      have hmj : m ≤ j := by omega
      have hNj : ¬ N = j := by omega
      have Hmm := Lib.hid hm
      clear hm
      have m3 : IntKind.i64.wrap ((j : Int) + m) = (j : Int) + m := wr64 _ (by omega) (by omega)
      have hs0 : Since w1 wr := HB.out
      go_upto_region 9 with (fail)
      refine wp_region_chain0 (w0 := w1) 9 [false, false, false, false, false, false, false, true, true] (by kernel_rfl) (by kernel_rfl) (hs0) ?_
      simp only [selF, selT, List.take_succ_cons, List.take_zero, List.drop_succ_cons, List.drop_zero]
      refine pflow_val (v := ?_) rfl ?_ ?_; rotate_left; (intro W hW; go_simp; with_reducible rfl)
      simp only [Act.put, List.setIfInBounds_toArray, List.set_cons_succ, List.set_cons_zero]
      refine pflow_val (v := ?_) rfl ?_ ?_; rotate_left; (intro W hW; go_simp; with_reducible rfl)
      simp only [Act.put, List.setIfInBounds_toArray, List.set_cons_succ, List.set_cons_zero]
      refine pflow_val (v := ?_) rfl ?_ ?_; rotate_left; (intro W hW; go_simp; with_reducible rfl)
      simp only [Act.put, List.setIfInBounds_toArray, List.set_cons_succ, List.set_cons_zero]
      refine pflow_val (v := ?_) rfl ?_ ?_; rotate_left; (intro W hW; go_simp; with_reducible rfl)
      simp only [Act.put, List.setIfInBounds_toArray, List.set_cons_succ, List.set_cons_zero]
      refine pflow_val (v := ?_) rfl ?_ ?_; rotate_left; (intro W hW; go_simp; with_reducible rfl)
      simp only [Act.put, List.setIfInBounds_toArray, List.set_cons_succ, List.set_cons_zero]
      refine pflow_val (v := ?_) rfl ?_ ?_; rotate_left; (intro W hW; go_simp; with_reducible rfl)
      simp only [Act.put, List.setIfInBounds_toArray, List.set_cons_succ, List.set_cons_zero]
      refine pflow_val (v := ?_) rfl ?_ ?_; rotate_left; (intro W hW; go_simp; with_reducible rfl)
      simp only [Act.put, List.setIfInBounds_toArray, List.set_cons_succ, List.set_cons_zero]
      obtain ⟨W, hWd⟩ : ∃ W, W = World.drew wr := ⟨_, rfl⟩
      rw [← hWd]
      have hW : Since w1 W := by rw [hWd]; exact since_drew (hs0)
      refine tflow_of_wp (fun Q' HQ => ?_)
      (refine wpList_copy_splice rfl _ _ 25 25 rfl 3 Tryz.underlying25 (by kernel_rfl) (some ⟨g, j, none⟩) (some ⟨g, 0, none⟩) (N - j) (N - j) j N (by go_simp) (by go_simp) g j (repRow x N j) 3 (by rw [hWd]; exact HG.out) (List.replicate m (.int .i64 x)) (by rw [List.length_replicate]; exact Hmm.out) (fun _ => ⟨rfl, _, rfl, fun i v hi => rep_src2 (by rw [hWd]; exact HG.out) hmj hi⟩) (by rw [repRow_len hj]; simpa using hm2) (by simp [Value.oneCell']) w1.heap.size w1 hW (by rw [Hg.out]; exact Nat.le_refl _) ?_); intro w4 hg4 hb4; refine HQ _ _ hb4 ?_; replace hW : Since w1 w4 := hb4; simp only [List.length_replicate, goInt]
      (try simp only [Act.put, List.setIfInBounds_toArray, List.set_cons_succ, List.set_cons_zero])
      refine tflow_val (v := ?_) rfl ?_ hW ?_; rotate_left; (go_simp; with_reducible rfl)
      simp only [Act.put, List.setIfInBounds_toArray, List.set_cons_succ, List.set_cons_zero]
      simp only [TFlow]
      have HG4 : Hid (w4.heap[g]? = some (.cells (repRow x N (j + m)).toArray 3 (0, 0))) := by
        have := hg4.out
        rw [repRow_splice hm2] at this
        exact this
      have HB4 := Lib.hid hW
      clear hg4 hb4 hW hWd hs0
      go_wp2
      go_roundw
      case rel => exact ⟨j + m, by omega, hm2, by go_num, HG4.out, HB4.out⟩
      case measure => simp [intOf]; omega
    · obtain rfl : j = N := by omega
      go_wp2
      go_ret
      exact ⟨_, rfl, own_rep HG.out (by rw [Hg.out]; exact Nat.le_refl _) hN2, HB.out⟩
end Go.Proofs.YtfkmkpamdlhbgaaGreat
namespace Go.Proofs.YtfkmkpamdlhbgaaGreat
open Go.RowKit
/-! the program's search -/
section
variable {W W' : World} {B : Nat} {ve vi vn va vl : Value}
end
set_option maxHeartbeats 4000000 in
theorem noMatching_any (ve vi vn : Value) (n : Net) (w : World) (h : NetIn w ve vi vn n) (hN : 1 ≤ n.ends.length) (hN2 : n.ends.length ≤ 1000000) :
    Calls Tryz.prog 98 #[.agg #[ve, vi, vn]] w fun e w' => ∃ u, e = .returned u ∧ Own w' w.heap.size u (List.replicate n.ends.length (-1)) ∧ Below w.heap.size w w' := by
  obtain ⟨w0, hw0⟩ : ∃ w0, w0 = (w).alloc (.cells #[ve, vi, vn] 27) := ⟨_, rfl⟩
  have hb0 : Below w.heap.size w w0 := by rw [hw0]; exact ((Below.refl _ _).alloc (by simp) _)
  have H := Lib.hid (h.keep hb0)
  obtain ⟨h1, h2, h3⟩ := h.keep hb0
  obtain ⟨A, c, rfl, hlc, hm, hA⟩ := h1
  obtain ⟨A2, c2, rfl, _, hm2, _⟩ := h2
  obtain ⟨A3, c3, rfl, _, hm3, _⟩ := h3
  unfold maxLen at hm hm2 hm3
  have p00 : ∀ W, Since w0 W → W.cell? ⟨w.heap.size, 0, none⟩ = some (.slice A n.ends.length c) := have_cell (by rw [hw0]; simp)
  have p01 : ∀ W, Since w0 W → W.cell? ⟨w.heap.size, 1, none⟩ = some (.slice A2 n.ids.length c2) := have_cell (by rw [hw0]; simp)
  have p02 : ∀ W, Since w0 W → W.cell? ⟨w.heap.size, 2, none⟩ = some (.slice A3 n.inputs.length c3) := have_cell (by rw [hw0]; simp)
  have Hb0 := Lib.hid hb0
  have Hw0 := Lib.hid hw0
  have HA := Lib.hid hA
  clear hA h
  clear hb0 hw0
  go_enter Tryz.func98, Tryz.ntmps98
  go_upto_region 1 with (fail)
  rw [← Hw0.out]
  go_wp2_with fail
  refine (repeat1_any w0.heap.size 1 (-1) n.ends.length _ hN hN2 (by simp)).mono ?_
  rintro e w1 ⟨u, rfl, ho, hb⟩
  have Ho := Lib.hid ho
  have Hb : Hid (Since w0 w1) := Since.after (since_alloc _ (since_refl _)) hb
  clear ho hb
  go_wp2
  go_ret
  exact ⟨_, rfl, Ho.out.mono (by have := Hb0.out.size; simp; omega), Since.after Hb0.out Hb.out⟩
end Go.Proofs.YtfkmkpamdlhbgaaGreat
namespace Go.Proofs.YtfkmkpamdlhbgaaGreat
open Go.RowKit
end Go.Proofs.YtfkmkpamdlhbgaaGreat
namespace Go.Proofs.YtfkmkpamdlhbgaaGreat
open Go.RowKit
end Go.Proofs.YtfkmkpamdlhbgaaGreat
namespace Go.Proofs.YtfkmkpamdlhbgaaGreat
open Go.RowKit
def tcHas (R : Option (Option (List Int))) : Bool := match R with | some (some _) => true | _ => false
def TcU (len : Nat) (R : Option (Option (List Int))) (U : Value) : Prop := match R with | some (some _) => ∃ g c, U = .slice (some ⟨g, 0, none⟩) len c | _ => U = .slice none 0 0
def tcAll (n : Net) : Option (Option (List Int)) := tcRun n 400002 (List.replicate n.ends.length (-1)) 0 0
set_option maxRecDepth 100000 in
set_option maxHeartbeats 8000000 in
theorem threeColouring_any (ve vi vn : Value) (n : Net) (w : World) (h : NetIn w ve vi vn n) (hn : netOk n = true) :
    Calls Tryz.prog 50 #[.agg #[ve, vi, vn]] w fun e w' => ∃ U, e = .returned (.tuple #[U, .bool (tcAll n).isSome]) ∧ TcU n.ends.length (tcAll n) U ∧ Below w.heap.size w w' := by
  have hn40 := netOk_len hn
  have hn1 := hn40.1
  have hn2 := hn40.2
  clear hn40
  have HRow : Hid (∀ (k : Nat) (es : List (Int × Int)), n.ends[k]? = some es → es.length ≤ 6 ∧ ∀ e ∈ es, 0 ≤ e.1 ∧ e.1 < n.ends.length) := fun (k : Nat) (es : List (Int × Int)) he => netOk_row hn he
  clear hn
  obtain ⟨R, hR⟩ : ∃ R, R = tcAll n := ⟨_, rfl⟩
  rw [← hR]
  have HR := Lib.hid hR
  clear hR
  obtain ⟨w0, hw0⟩ : ∃ w0, w0 = (w).alloc (.cells #[ve, vi, vn] 27) := ⟨_, rfl⟩
  have hb0 : Below w.heap.size w w0 := by rw [hw0]; exact ((Below.refl _ _).alloc (by simp) _)
  have H := Lib.hid (h.keep hb0)
  obtain ⟨h1, h2, h3⟩ := h.keep hb0
  obtain ⟨A, c, rfl, hlc, hm, hA⟩ := h1
  obtain ⟨A2, c2, rfl, _, hm2, _⟩ := h2
  obtain ⟨A3, c3, rfl, _, hm3, _⟩ := h3
  unfold maxLen at hm hm2 hm3
  have p00 : ∀ W, Since w0 W → W.cell? ⟨w.heap.size, 0, none⟩ = some (.slice A n.ends.length c) := have_cell (by rw [hw0]; simp)
  have p01 : ∀ W, Since w0 W → W.cell? ⟨w.heap.size, 1, none⟩ = some (.slice A2 n.ids.length c2) := have_cell (by rw [hw0]; simp)
  have p02 : ∀ W, Since w0 W → W.cell? ⟨w.heap.size, 2, none⟩ = some (.slice A3 n.inputs.length c3) := have_cell (by rw [hw0]; simp)
  have Hb0 := Lib.hid hb0
  have Hw0 := Lib.hid hw0
  have HA := Lib.hid hA
  clear hA h
  clear hb0 hw0
  have hs0 : Since w0 w0 := since_refl _
  go_enter Tryz.func50, Tryz.ntmps50
  go_upto_region 1 with (fail)
  rw [← Hw0.out]
  go_wp2_with fail
  refine (noMatching_any _ _ _ n w0 H.out hn1 (by omega)).mono ?_
  rintro e w1 ⟨u, rfl, ho, hb1⟩
  obtain ⟨g, cU, rfl, hUl, hUm⟩ : ∃ g cU, u = .slice (some ⟨g, 0, none⟩) n.ends.length cU ∧ n.ends.length ≤ cU ∧ cU ≤ maxLen := by
    rcases ownsRow_cases ho with ⟨h0, h0'⟩ | ⟨g, cc, h0, _, _, h3, h4⟩
    · rw [List.length_replicate] at h0'; omega
    · rw [List.length_replicate] at h0 h3; exact ⟨g, cc, h0, h3, h4⟩
  unfold maxLen at hUm
  have Ho1 := Lib.hid ho
  have Hgr := Lib.hid (World.ownsRow.lt ho g (by simp [Value.ownBlock])).1
  have HS1 := Lib.hid (hs0.trans hb1)
  clear ho hb1 hs0
  go_wp2
  go_loopw [5, 6] (fun us uv wr => ∃ (l : List Int) (v : Int) (s f : Nat), us = .int .i64 (s : Int) ∧ uv = .int .i64 v ∧ Own wr w0.heap.size (.slice (some ⟨g, 0, none⟩) n.ends.length cU) l ∧ TcSt n l v s f ∧ tcRun n f l v s = R ∧ Since w0 wr) (fun us uv _ => tcMu (intOf uv) (intOf us).toNat)
  case atStart => exact ⟨_, 0, 0, 400002, rfl, rfl, Ho1.out, tc_start, HR.out.symm, HS1.out⟩
  case round =>
    obtain ⟨l, v, s, f, rfl, rfl, ho, hst, hrun, hsr⟩ := hrel
    have Ho := Lib.hid ho
    have Hst := Lib.hid hst
    have Hrun := Lib.hid hrun
    have hlen := hst.len
    have hlo := hst.lo
    have hhi := hst.hi
    have hss := hst.st
    clear ho hrun hst
    by_cases hv : (n.ends.length : Int) ≤ v
    · have hr : Hid (R = some (some l)) := by show _ = _; rw [← Hrun.out]; exact tc_done Hst.out hv
      have HS := Lib.hid hsr
      obtain rfl : v = (n.ends.length : Int) := by omega
      clear hsr hv hlo hhi hss
      go_wp2
      go_ret2
      exact ⟨_, by rw [hr.out]; rfl, by rw [hr.out]; exact ⟨g, cU, rfl⟩, Since.after Hb0.out HS.out⟩
    · by_cases hv0 : v < 0
      · have hr : Hid (R = some none) := by show _ = _; rw [← Hrun.out]; exact tc_none Hst.out (by omega) hv0
        have HS := Lib.hid hsr
        have hvl : v < (n.ends.length : Int) := by omega
        clear hsr hv hlo hhi hss
        go_wp2
        go_ret2
        exact ⟨_, by rw [hr.out]; rfl, by rw [hr.out]; rfl, Since.after Hb0.out HS.out⟩
      · obtain ⟨k, rfl⟩ := Int.eq_ofNat_of_zero_le (show 0 ≤ v by omega)
        have hk : k < n.ends.length := by omega
        obtain ⟨x, hx⟩ := getx l k (by omega)
        have hxr := Hst.out.rng x (List.mem_of_getElem? hx)
        obtain ⟨f', rfl⟩ := tc_fuel Hst.out
        have cz := Ho.out.cell hx
        have fz := Ho.out.free k
        have Hx := Lib.hid hx
        have m1 : IntKind.i64.wrap ((k : Int) - 1) = (k : Int) - 1 := wr64 _ (by omega) (by omega)
        have m2 : IntKind.i64.wrap (x + 1) = x + 1 := wr64 _ (by omega) (by omega)
        have m3 : IntKind.i64.wrap ((s : Int) + 1) = (s : Int) + 1 := wr64 _ (by omega) (by omega)
        have m4 : IntKind.i64.wrap ((k : Int) + 1) = (k : Int) + 1 := wr64 _ (by omega) (by omega)
        clear hx hv hv0 hlo hhi
        by_cases h2 : x = 2
        · subst h2
          have Hb := Lib.hid (tc_back Hst.out hk Hx.out)
          clear m2 m3 m4 hxr
          go_wp2
          go_roundw
          case rel => exact ⟨l.set k (-1), (k : Int) - 1, s, f', rfl, by first | rfl | go_num, Ho.out.set (k := k) (-1), Hb.out.2, by rw [← Hb.out.1]; exact Hrun.out, hsr.setCell Hgr.out _⟩
          case measure => (simp [intOf, tcMu]; try omega)
        · have h2' : (x = 2) = False := by simp [h2]
          have h2b : (x == 2) = false := by simp [h2]
          by_cases hs : s = 200000
          · have hr : Hid (R = none) := by show _ = _; rw [← Hrun.out]; subst hs; exact tc_stop Hst.out hk Hx.out h2
            have HS := Lib.hid hsr
            have hs1 : ((s : Int) = 200000) = True := by simp; omega
            have hs2 : (s = 200000) = True := by simp [hs]
            have hs3 : ((s : Int) == 200000) = true := by simp; omega
            clear hsr m1 m2 m3 m4 hxr h2 hs hss
            go_wp2
            go_ret2
            exact ⟨_, by rw [hr.out]; rfl, by rw [hr.out]; rfl, Since.after Hb0.out HS.out⟩
          · have hs' : ((s : Int) = 200000) = False := by simp; omega
            have hs2 : (s = 200000) = False := by simp [hs]
            have hs3 : ((s : Int) == 200000) = false := by simp; omega
            have Hg := Lib.hid (tc_go Hst.out hk Hx.out h2 hs)
            have Hs := Lib.hid hs
            clear h2 hs hxr
            obtain ⟨es, hes⟩ := getx n.ends k hk
            obtain ⟨r1, r2⟩ := HRow.out k es hes
            have Hes := Lib.hid hes
            have Hr1 := Lib.hid r1
            have Hr2 := Lib.hid r2
            clear hes r1 r2
            go_upto_region 14 with (fail)
            obtain ⟨l2, hl2⟩ : ∃ l2, l2 = l.set k (x + 1) := ⟨_, rfl⟩
            rw [← hl2] at Hg
            obtain ⟨W0, hW0⟩ : ∃ W0, W0 = wr.setCell ⟨g, k, none⟩ (.int .i64 (x + 1)) := ⟨_, rfl⟩
            rw [← hW0]
            have Ho2 : Hid (Own W0 w0.heap.size (.slice (some ⟨g, 0, none⟩) n.ends.length cU) l2) := by show Own _ _ _ _; rw [hW0, hl2]; exact Ho.out.set (k := k) (x + 1)
            have hl2l : l2.length = n.ends.length := by rw [hl2, List.length_set]; exact hlen
            have hx2 : l2[k]? = some (x + 1) := by rw [hl2, List.getElem?_set_self (by omega)]
            have HS0 : Hid (Since w0 W0) := by show Since _ _; rw [hW0]; exact hsr.setCell Hgr.out _
            have c2 := have_cell (Ho2.out.cell hx2)
            have HIl := Lib.hid (show ∀ X, Since W0 X → IntS X (.slice (some ⟨g, 0, none⟩) n.ends.length cU) l2 from fun X hX => by have := (Own.since Ho2.out hX).ints; exact this)
            have t0 := lift_cell p00 HS0.out
            have t1 := lift_cell p01 HS0.out
            have t2 := lift_cell p02 HS0.out
            have hz : Since W0 W0 := since_refl _
            have Hl2l := Lib.hid hl2l
            have Hx2 := Lib.hid hx2
            have Hgd := Lib.hid (show tcGood n l2 k = !(hasB (nearB l2 es) (x + 1)) by unfold tcGood hasB; rw [getD_of Hes.out, getD_of hx2])
            have HP := Lib.hid (And.intro p00 (And.intro p01 p02))
            clear hW0 hl2 hl2l hx2 hsr cz fz p00 p01 p02
            refine wp_region_chain (w0 := W0) 9 [false, false, false, true, false, false, false, false, true] (by kernel_rfl) (by kernel_rfl) (hz) ?_
            simp only [selF, selT, List.take_succ_cons, List.take_zero, List.drop_succ_cons, List.drop_zero]
            refine pflow_val (v := ?_) rfl ?_ ?_; rotate_left; (intro W hW; go_simp; with_reducible rfl)
            simp only [Act.put, List.setIfInBounds_toArray, List.set_cons_succ, List.set_cons_zero]
            refine pflow_val (v := ?_) rfl ?_ ?_; rotate_left; (intro W hW; go_simp; with_reducible rfl)
            simp only [Act.put, List.setIfInBounds_toArray, List.set_cons_succ, List.set_cons_zero]
            refine pflow_val (v := ?_) rfl ?_ ?_; rotate_left; (intro W hW; go_simp; with_reducible rfl)
            simp only [Act.put, List.setIfInBounds_toArray, List.set_cons_succ, List.set_cons_zero]
            refine pflow_val (v := ?_) rfl ?_ ?_; rotate_left; (intro W hW; go_simp; with_reducible rfl)
            simp only [Act.put, List.setIfInBounds_toArray, List.set_cons_succ, List.set_cons_zero]
            refine pflow_val (v := ?_) rfl ?_ ?_; rotate_left; (intro W hW; go_simp; with_reducible rfl)
            simp only [Act.put, List.setIfInBounds_toArray, List.set_cons_succ, List.set_cons_zero]
            refine pflow_val (v := ?_) rfl ?_ ?_; rotate_left; (intro W hW; go_simp; with_reducible rfl)
            simp only [Act.put, List.setIfInBounds_toArray, List.set_cons_succ, List.set_cons_zero]
            refine pflow_val (v := ?_) rfl ?_ ?_; rotate_left; (intro W hW; go_simp; with_reducible rfl)
            simp only [Act.put, List.setIfInBounds_toArray, List.set_cons_succ, List.set_cons_zero]
            intro W hW
            refine Or.inl ⟨rfl, ?_⟩
            go_simp
            (with_reducible refine (near_any _ _ _ _ n l2 k es W (H.out.keep (HS0.out.after hW).below) (HIl.out W hW) Hes.out (by have := Hr1.out; omega) (by rw [Hl2l.out]; exact Hr2.out)).mono ?_)
            rintro e W' ⟨un, rfl, hon, hbn⟩
            refine ⟨_, rfl, hW.trans hbn, ?_⟩
            replace hW := hW.trans hbn
            have Hon := Lib.hid hon.ints; clear hon hbn
            (try simp only [Act.put, List.setIfInBounds_toArray, List.set_cons_succ, List.set_cons_zero])
            refine Or.inl ⟨rfl, ?_⟩
            go_simp
            (with_reducible refine (containsI_any _ (nearB l2 es) (x + 1) _ Hon.out).mono ?_)
            rintro e W' ⟨rfl, rfl⟩
            refine ⟨_, rfl, hW, ?_⟩
            replace hW := hW
            skip
            (try simp only [Act.put, List.setIfInBounds_toArray, List.set_cons_succ, List.set_cons_zero])
            simp only [TFlow]
            have Ho3 := Lib.hid (Own.since Ho2.out hW)
            have HS3 := Lib.hid (HS0.out.after hW)
            obtain ⟨p00, p01, p02⟩ := HP.out
            cases hb : hasB (nearB l2 es) (x + 1)
            · have hgt : tcGood n l2 k = true := by rw [Hgd.out, hb]; rfl
              rw [hgt] at Hg
              clear hW hz t0 t1 t2 c2 hb m1 m2 m3
              go_wp2
              go_roundw
              case rel => exact ⟨l2, (k : Int) + 1, s + 1, f', by go_num, by first | rfl | go_num, Ho3.out, by have := Hg.out.2; simpa using this, by have := Hg.out.1; simp at this; rw [← this]; exact Hrun.out, HS3.out⟩
              case measure => (have := Hs.out; have := Hst.out.st; simp [intOf, tcMu]; try omega)
            · have hgt : tcGood n l2 k = false := by rw [Hgd.out, hb]; rfl
              rw [hgt] at Hg
              clear hW hz t0 t1 t2 c2 hb m1 m2 m3
              go_wp2
              go_roundw
              case rel => exact ⟨l2, (k : Int), s + 1, f', by go_num, by first | rfl | go_num, Ho3.out, by have := Hg.out.2; simpa using this, by have := Hg.out.1; simp at this; rw [← this]; exact Hrun.out, HS3.out⟩
              case measure => (have := Hs.out; have := Hst.out.st; simp [intOf, tcMu]; try omega)
end Go.Proofs.YtfkmkpamdlhbgaaGreat
namespace Go.Proofs.YtfkmkpamdlhbgaaGreat
open Go.RowKit
/-! leaders and sizes of components, plain law -/
/-- is a node of the component p, with the input 1? -/
def oneIn (n : Net) (p : Nat) (w : Nat) : Bool := decide (leastB n w = p) && decide (n.inputs.getD w 0 = 1)
def onesTo (n : Net) (p k : Nat) : List Nat := (List.range k).filter (oneIn n p)
def onesOf (n : Net) (p : Nat) : List Nat := onesTo n p n.ends.length
theorem onesTo_succ (n : Net) (p k : Nat) : onesTo n p (k + 1) = onesTo n p k ++ (if oneIn n p k = true then [k] else []) := by
  unfold onesTo
  rw [List.range_succ, List.filter_append]
  congr 1
  cases h : oneIn n p k <;> simp [h]
theorem onesTo_len (n : Net) (p k : Nat) : (onesTo n p k).length ≤ k := by
  unfold onesTo
  exact Nat.le_trans (List.length_filter_le _ _) (by simp)
theorem onesTo_mono (n : Net) (p : Nat) {j k : Nat} (h : j ≤ k) : (onesTo n p j).length ≤ (onesTo n p k).length := by
  induction k with
  | zero => obtain rfl : j = 0 := by omega
            exact Nat.le_refl _
  | succ k ih =>
    rcases Nat.lt_or_ge j (k + 1) with h1 | h1
    · rw [onesTo_succ, List.length_append]
      have := ih (by omega)
      omega
    · obtain rfl : j = k + 1 := by omega
      exact Nat.le_refl _
/-- the node that is found so far -/
def ownTo (n : Net) (p k : Nat) : Int := match onesTo n p k with
  | [] => -1
  | w :: _ => (w : Int)
theorem ownTo_range (n : Net) (p k : Nat) : -1 ≤ ownTo n p k ∧ ownTo n p k < k := by
  unfold ownTo
  cases h : onesTo n p k with
  | nil => show -1 ≤ (-1 : Int) ∧ (-1 : Int) < k; omega
  | cons w l =>
    have : w ∈ onesTo n p k := by rw [h]; exact List.mem_cons_self
    have := List.mem_range.1 (List.mem_filter.1 this).1
    show -1 ≤ (w : Int) ∧ (w : Int) < k
    constructor <;> omega
theorem ownTo_neg (n : Net) (p k : Nat) : ownTo n p k < 0 ↔ (onesTo n p k).length = 0 := by
  unfold ownTo
  cases h : onesTo n p k with
  | nil => simp
  | cons w l => simp
theorem ownTo_skip {n : Net} {p k : Nat} (h : oneIn n p k = false) : onesTo n p (k + 1) = onesTo n p k ∧ ownTo n p (k + 1) = ownTo n p k := by
  have : onesTo n p (k + 1) = onesTo n p k := by rw [onesTo_succ, h]; simp
  exact ⟨this, by unfold ownTo; rw [this]⟩
theorem ownTo_first {n : Net} {p k : Nat} (h : oneIn n p k = true) (h0 : ownTo n p k < 0) : (onesTo n p (k + 1)).length = 1 ∧ ownTo n p (k + 1) = k := by
  have h1 : onesTo n p k = [] := List.eq_nil_of_length_eq_zero ((ownTo_neg n p k).1 h0)
  have : onesTo n p (k + 1) = [k] := by rw [onesTo_succ, h, h1]; rfl
  exact ⟨by rw [this]; rfl, by unfold ownTo; rw [this]⟩
theorem ownTo_two {n : Net} {p k : Nat} (h : oneIn n p k = true) (h0 : ¬ ownTo n p k < 0) (hk : k < n.ends.length) : (onesOf n p).length ≠ 1 := by
  have h1 : (onesTo n p k).length ≠ 0 := fun e => h0 ((ownTo_neg n p k).2 e)
  have h2 : (onesTo n p (k + 1)).length = (onesTo n p k).length + 1 := by rw [onesTo_succ, h]; simp
  have h3 := onesTo_mono n p (show k + 1 ≤ n.ends.length by omega)
  unfold onesOf
  omega
/-- the leader of a component, if there is just one -/
def leadOf (n : Net) (v : Nat) : Int := ownTo n (leastB n v) n.ends.length
def oneLead (n : Net) (v : Nat) : Bool := (onesOf n (leastB n v)).length == 1
def leadAll (n : Net) : Bool := (List.range n.ends.length).all (oneLead n)
def leadL (n : Net) (k : Nat) : List Int := (List.range k).map (leadOf n)
theorem leadL_succ (n : Net) (k : Nat) : leadL n (k + 1) = leadL n k ++ [leadOf n k] := by unfold leadL; rw [List.range_succ, List.map_append]; rfl
theorem leadL_len (n : Net) (k : Nat) : (leadL n k).length = k := by simp [leadL]
theorem leadAll_no {n : Net} {v : Nat} (hv : v < n.ends.length) (h : (onesOf n (leastB n v)).length ≠ 1) : leadAll n = false := by
  rw [Bool.eq_false_iff]
  intro hc
  have := List.all_eq_true.1 hc v (List.mem_range.2 hv)
  exact h (by simpa [oneLead] using this)
/-- how many nodes a component has -/
def sizeTo (n : Net) (p k : Nat) : Nat := ((List.range k).filter fun w => decide (leastB n w = p)).length
def sizeOf' (n : Net) (p : Nat) : Nat := sizeTo n p n.ends.length
theorem sizeTo_succ (n : Net) (p k : Nat) : sizeTo n p (k + 1) = sizeTo n p k + (if leastB n k = p then 1 else 0) := by
  unfold sizeTo
  rw [List.range_succ, List.filter_append, List.length_append]
  congr 1
  by_cases h : leastB n k = p
  · rw [if_pos h, List.filter_cons_of_pos (by simpa using h)]; rfl
  · rw [if_neg h, List.filter_cons_of_neg (by simpa using h)]; rfl
theorem sizeTo_le (n : Net) (p k : Nat) : sizeTo n p k ≤ k := by
  unfold sizeTo
  exact Nat.le_trans (List.length_filter_le _ _) (by simp)
def evenAt (n : Net) (v : Nat) : Bool := !(sizeOf' n (leastB n v) % 2 == 1)
def evenAll (n : Net) : Bool := (List.range n.ends.length).all (evenAt n)
theorem all_range_no {k v : Nat} {f : Nat → Bool} (hv : v < k) (h : f v = false) : (List.range k).all f = false := by
  rw [Bool.eq_false_iff]
  intro hc
  rw [List.all_eq_true.1 hc v (List.mem_range.2 hv)] at h
  cases h
/-- is the network a forest? -/
def stubB (n : Net) : Bool := (edgesB n).any fun e => decide (e.1 = e.2.2.1) && decide (e.2.1 = e.2.2.2)
def forB (n : Net) : Bool := !stubB n && decide ((edgesB n).length + rootsB n n.ends.length = n.ends.length)
/-- the property of a scheme: known?, has? -/
def hasB2 (n : Net) (s : Int) : Bool :=
  if s = 1 then bipB n
  else if s = 2 then tcHas (tcAll n)
  else if s = 3 then forB n
  else if n.ids.length = 0 then false
  else if s = 4 then leadAll n
  else evenAll n
def knowB (n : Net) (s : Int) : Bool := if s = 2 then (tcAll n).isSome else true
def hpOk (n : Net) (s : Int) : Bool := netOk n && inB 1 5 s
def fnExactHasProperty_r0 (n : Net) (s : Int) : Bool := hpOk n s && hasB2 n s
def fnExactHasProperty_r1 (n : Net) (s : Int) : Bool := hpOk n s && knowB n s
end Go.Proofs.YtfkmkpamdlhbgaaGreat
namespace Go.Proofs.YtfkmkpamdlhbgaaGreat
open Go.RowKit
/-! a tree by depths: who lies below a node; the sum over the nodes from the deepest on -/
structure Tr (N : Nat) (dep : Nat → Int) (par : Nat → Option Nat) : Prop where
  some_ : ∀ v p, v < N → par v = some p → p < N ∧ dep p + 1 = dep v
  pos : ∀ v, v < N → 0 ≤ dep v
/-- x lies on the way from w up to the root -/
def onW (par : Nat → Option Nat) : Nat → Nat → Nat → Bool
  | 0, w, x => w == x
  | f + 1, w, x => w == x || (match par w with | none => false | some y => onW par f y x)
def anc (dep : Nat → Int) (par : Nat → Option Nat) (w x : Nat) : Bool := onW par (dep w).toNat w x
theorem onW_more {N : Nat} {dep : Nat → Int} {par : Nat → Option Nat} (h : Tr N dep par) : ∀ (f w x : Nat), w < N → (dep w).toNat ≤ f → onW par f w x = anc dep par w x
  | 0, w, x, hw, hf => by
    have h1 := h.pos w hw
    unfold anc
    rw [show (dep w).toNat = 0 by omega]
  | f + 1, w, x, hw, hf => by
    unfold anc
    cases hp : par w with
    | none =>
      cases hd : (dep w).toNat with
      | zero => simp [onW, hp]
      | succ d => simp [onW, hp]
    | some y =>
      obtain ⟨h1, h2⟩ := h.some_ w y hw hp
      have h3 := h.pos y h1
      obtain ⟨d, hd⟩ : ∃ d, (dep w).toNat = d + 1 := ⟨(dep w).toNat - 1, by omega⟩
      rw [hd]
      simp only [onW, hp]
      rw [onW_more h f y x h1 (by omega), onW_more h d y x h1 (by omega)]
theorem anc_eq {N : Nat} {dep : Nat → Int} {par : Nat → Option Nat} (h : Tr N dep par) {w x : Nat} (hw : w < N) : anc dep par w x = (w == x || (match par w with | none => false | some y => anc dep par y x)) := by
  rw [← onW_more h ((dep w).toNat + 1) w x hw (by omega)]
  simp only [onW]
  cases hp : par w with
  | none => rfl
  | some y =>
    obtain ⟨h1, h2⟩ := h.some_ w y hw hp
    simp only []
    rw [onW_more h _ y x h1 (by omega)]
theorem anc_self {N : Nat} {dep : Nat → Int} {par : Nat → Option Nat} (h : Tr N dep par) {w : Nat} (hw : w < N) : anc dep par w w = true := by rw [anc_eq h hw]; simp
theorem anc_dep {N : Nat} {dep : Nat → Int} {par : Nat → Option Nat} (h : Tr N dep par) : ∀ (f w x : Nat), w < N → (dep w).toNat ≤ f → anc dep par w x = true → x < N ∧ (x = w ∨ dep x < dep w)
  | f, w, x, hw, hf, ha => by
    rw [anc_eq h hw, Bool.or_eq_true] at ha
    rcases ha with ha | ha
    · have := eq_of_beq ha
      subst this
      exact ⟨hw, .inl rfl⟩
    · cases hp : par w with
      | none => rw [hp] at ha; simp at ha
      | some y =>
        rw [hp] at ha
        obtain ⟨h1, h2⟩ := h.some_ w y hw hp
        have h3 := h.pos y h1
        cases f with
        | zero => omega
        | succ f =>
          obtain ⟨g1, g2⟩ := anc_dep h f y x h1 (by omega) ha
          refine ⟨g1, .inr ?_⟩
          rcases g2 with g2 | g2
          · subst g2; omega
          · omega
/-- the child towards w -/
theorem anc_child {N : Nat} {dep : Nat → Int} {par : Nat → Option Nat} (h : Tr N dep par) : ∀ (f w x : Nat), w < N → (dep w).toNat ≤ f → anc dep par w x = true → w ≠ x → ∃ c, c < N ∧ par c = some x ∧ anc dep par w c = true
  | f, w, x, hw, hf, ha, hn => by
    rw [anc_eq h hw, Bool.or_eq_true] at ha
    rcases ha with ha | ha
    · exact absurd (eq_of_beq ha) hn
    · cases hp : par w with
      | none => rw [hp] at ha; simp at ha
      | some y =>
        rw [hp] at ha
        obtain ⟨h1, h2⟩ := h.some_ w y hw hp
        have h3 := h.pos y h1
        by_cases hy : y = x
        · subst hy
          exact ⟨w, hw, hp, anc_self h hw⟩
        · cases f with
          | zero => omega
          | succ f =>
            obtain ⟨c, hc, g1, g2⟩ := anc_child h f y x h1 (by omega) ha hy
            refine ⟨c, hc, g1, ?_⟩
            rw [anc_eq h hw, hp, Bool.or_eq_true]
            exact .inr g2
theorem anc_up {N : Nat} {dep : Nat → Int} {par : Nat → Option Nat} (h : Tr N dep par) : ∀ (f w c x : Nat), w < N → (dep w).toNat ≤ f → anc dep par w c = true → par c = some x → anc dep par w x = true
  | f, w, c, x, hw, hf, ha, hp => by
    rw [anc_eq h hw, Bool.or_eq_true] at ha
    rcases ha with ha | ha
    · have := eq_of_beq ha
      subst this
      obtain ⟨h1, -⟩ := h.some_ w x hw hp
      rw [anc_eq h hw, hp, Bool.or_eq_true]
      exact .inr (anc_self h h1)
    · cases hq : par w with
      | none => rw [hq] at ha; simp at ha
      | some y =>
        rw [hq] at ha
        obtain ⟨h1, h2⟩ := h.some_ w y hw hq
        have h3 := h.pos y h1
        cases f with
        | zero => omega
        | succ f =>
          have g := anc_up h f y c x h1 (by omega) ha hp
          rw [anc_eq h hw, hq, Bool.or_eq_true]
          exact .inr g
/-- of one depth there is one -/
theorem anc_one {N : Nat} {dep : Nat → Int} {par : Nat → Option Nat} (h : Tr N dep par) : ∀ (f w a b : Nat), w < N → (dep w).toNat ≤ f → anc dep par w a = true → anc dep par w b = true → dep a = dep b → a = b
  | f, w, a, b, hw, hf, ha, hb, he => by
    have ga := anc_dep h f w a hw hf ha
    have gb := anc_dep h f w b hw hf hb
    rw [anc_eq h hw, Bool.or_eq_true] at ha hb
    by_cases e1 : w = a
    · subst e1
      rcases gb.2 with g | g
      · exact g.symm
      · omega
    · by_cases e2 : w = b
      · subst e2
        rcases ga.2 with g | g
        · exact g
        · omega
      · rcases ha with ha | ha
        · exact absurd (eq_of_beq ha) e1
        · rcases hb with hb | hb
          · exact absurd (eq_of_beq hb) e2
          · cases hp : par w with
            | none => rw [hp] at ha; simp at ha
            | some y =>
              rw [hp] at ha hb
              obtain ⟨h1, h2⟩ := h.some_ w y hw hp
              have h3 := h.pos y h1
              cases f with
              | zero => omega
              | succ f => exact anc_one h f y a b h1 (by omega) ha hb he
/-- below x, as far as the children in D are done -/
def ancD (dep : Nat → Int) (par : Nat → Option Nat) (D : List Nat) (w x : Nat) : Bool := w == x || D.any (fun c => (par c == some x) && anc dep par w c)
theorem ancD_full {N : Nat} {dep : Nat → Int} {par : Nat → Option Nat} (h : Tr N dep par) {D : List Nat} {x : Nat} (hD : ∀ c, c < N → par c = some x → c ∈ D) (hN : ∀ c ∈ D, c < N) {w : Nat} (hw : w < N) : ancD dep par D w x = anc dep par w x := by
  rw [Bool.eq_iff_iff]
  unfold ancD
  rw [Bool.or_eq_true, List.any_eq_true]
  constructor
  · rintro (h1 | ⟨c, hc, h1⟩)
    · have := eq_of_beq h1
      subst this
      exact anc_self h hw
    · rw [Bool.and_eq_true] at h1
      exact anc_up h _ w c x hw (Nat.le_refl _) h1.2 (eq_of_beq h1.1)
  · intro ha
    by_cases e : w = x
    · left; simp [e]
    · obtain ⟨c, hc, h1, h2⟩ := anc_child h _ w x hw (Nat.le_refl _) ha e
      exact .inr ⟨c, hD c hc h1, by rw [h1, h2]; simp⟩
theorem countP_or {p q r : Nat → Bool} : ∀ {l : List Nat}, (∀ w ∈ l, r w = (p w || q w)) → (∀ w ∈ l, p w = true → q w = false) → l.countP r = l.countP p + l.countP q
  | [], _, _ => rfl
  | a :: l, h1, h2 => by
    have ih := countP_or (l := l) (fun w hw => h1 w (List.mem_cons_of_mem _ hw)) (fun w hw => h2 w (List.mem_cons_of_mem _ hw))
    have e1 := h1 a (by simp)
    have e2 := h2 a (by simp)
    rw [List.countP_cons, List.countP_cons, List.countP_cons, ih, e1]
    cases hp : p a <;> cases hq : q a <;> simp_all <;> omega
/-- the number of nodes below x -/
def subB (N : Nat) (dep : Nat → Int) (par : Nat → Option Nat) (x : Nat) : Nat := (List.range N).countP fun w => anc dep par w x
structure Szs (N : Nat) (dep : Nat → Int) (par : Nat → Option Nat) (D : List Nat) (s : List Int) : Prop where
  len : s.length = N
  val : ∀ x, x < N → s.getD x 0 = ((List.range N).countP fun w => ancD dep par D w x : Nat)
theorem Szs.start (N : Nat) (dep : Nat → Int) (par : Nat → Option Nat) : Szs N dep par [] (List.replicate N 1) := by
  refine ⟨by simp, fun x hx => ?_⟩
  have e : (List.range N).countP (fun w => ancD dep par [] w x) = 1 := by
    have : (fun w => ancD dep par [] w x) = fun w => w == x := by funext w; simp [ancD]
    rw [this]
    have h1 := List.countP_eq_length_filter (p := fun w => w == x) (l := List.range N)
    have h2 : (List.range N).count x = 1 := by rw [List.Nodup.count List.nodup_range, if_pos (List.mem_range.2 hx)]
    rw [← h2]; rfl
  rw [e, List.getD_eq_getElem?_getD, List.getElem?_replicate, if_pos hx]
  rfl
/-- all children of c are done -/
theorem Szs.own {N : Nat} {dep : Nat → Int} {par : Nat → Option Nat} (h : Tr N dep par) {D : List Nat} {s : List Int} (hs : Szs N dep par D s) {c : Nat} (hc : c < N) (hD : ∀ k, k < N → par k = some c → k ∈ D) (hN : ∀ k ∈ D, k < N) : s.getD c 0 = (subB N dep par c : Nat) := by
  rw [hs.val c hc]
  unfold subB
  congr 1
  refine List.countP_congr fun w hw => ?_
  rw [ancD_full h hD hN (List.mem_range.1 hw)]
theorem Szs.skip {N : Nat} {dep : Nat → Int} {par : Nat → Option Nat} {D : List Nat} {s : List Int} (hs : Szs N dep par D s) {c : Nat} (hp : par c = none) : Szs N dep par (D ++ [c]) s := by
  refine ⟨hs.len, fun x hx => ?_⟩
  rw [hs.val x hx]
  congr 1
  refine List.countP_congr fun w _ => ?_
  unfold ancD
  rw [List.any_append]
  simp [hp]
theorem Szs.step {N : Nat} {dep : Nat → Int} {par : Nat → Option Nat} (h : Tr N dep par) {D : List Nat} {s : List Int} (hs : Szs N dep par D s) {c p : Nat} (hc : c < N) (hcD : c ∉ D) (hp : par c = some p) (hD : ∀ k, k < N → par k = some c → k ∈ D) (hN : ∀ k ∈ D, k < N) :
    Szs N dep par (D ++ [c]) (s.set p (s.getD p 0 + s.getD c 0)) := by
  obtain ⟨hpN, hd⟩ := h.some_ c p hc hp
  have hcv := hs.own h hc hD hN
  refine ⟨by rw [List.length_set]; exact hs.len, fun x hx => ?_⟩
  by_cases e : x = p
  · subst e
    rw [List.getD_eq_getElem?_getD, List.getElem?_set_self (by rw [hs.len]; exact hpN), Option.getD_some, hcv, hs.val x hx]
    unfold subB
    rw [← Int.natCast_add]
    congr 1
    symm
    refine countP_or (fun w hw => ?_) fun w hw h1 => ?_
    · unfold ancD
      rw [List.any_append]
      simp [hp, Bool.or_assoc]
    · have hwN := List.mem_range.1 hw
      cases h2 : anc dep par w c with
      | false => rfl
      | true =>
        exfalso
        have g2 := anc_dep h _ w c hwN (Nat.le_refl _) h2
        unfold ancD at h1
        rw [Bool.or_eq_true, List.any_eq_true] at h1
        rcases h1 with h1 | ⟨k, hk, h1⟩
        · have := eq_of_beq h1
          subst this
          rcases g2.2 with g | g
          · subst g; omega
          · omega
        · rw [Bool.and_eq_true] at h1
          have hk2 := eq_of_beq h1.1
          obtain ⟨-, hd2⟩ := h.some_ k x (hN k hk) hk2
          have := anc_one h _ w k c hwN (Nat.le_refl _) h1.2 h2 (by omega)
          subst this
          exact hcD hk
  · rw [List.getD_eq_getElem?_getD, List.getElem?_set_ne (Ne.symm e), ← List.getD_eq_getElem?_getD, hs.val x hx]
    congr 1
    refine List.countP_congr fun w _ => ?_
    unfold ancD
    rw [List.any_append]
    have : (par c == some x) = false := by rw [hp]; simp; omega
    simp [this]
end Go.Proofs.YtfkmkpamdlhbgaaGreat
namespace Go.Proofs.YtfkmkpamdlhbgaaGreat
open Go.RowKit
/-! what the distances are: each node but the first one has a neighbour one nearer, and neighbours differ by one at most (plain law) -/
abbrev dAt (st : List Int × List Int) (x : Int) : Int := st.1.getD x.toNat 0
structure BD (n : Net) (v : Nat) (st : List Int × List Int) (i : Nat) : Prop where
  zero : dAt st (v : Int) = 0
  par : ∀ x ∈ st.2, x ≠ (v : Int) → ∃ y ∈ st.2, x ∈ bsee n y ∧ dAt st y + 1 = dAt st x
  sorted : ∀ j k, j ≤ k → k < st.2.length → dAt st (st.2.getD j 0) ≤ dAt st (st.2.getD k 0)
  span : ∀ k, k < st.2.length → i < st.2.length → dAt st (st.2.getD k 0) ≤ dAt st (st.2.getD i 0) + 1
  closed : ∀ k, k < i → k < st.2.length → ∀ x ∈ bsee n (st.2.getD k 0), x ∈ st.2 ∧ dAt st x ≤ dAt st (st.2.getD k 0) + 1
theorem BD.begin {n : Net} {v : Nat} (hv : v < n.ends.length) : BD n v (bfsStart n v) 0 where
  zero := by unfold dAt bfsStart; simp [hv]
  par := fun x hx hne => by
    have : x = (v : Int) := by simpa [bfsStart] using hx
    exact absurd this hne
  sorted := fun j k hjk hk => by
    have : (bfsStart n v).2.length = 1 := rfl
    obtain rfl : j = k := by omega
    exact Int.le_refl _
  span := fun k hk hi => by
    have : (bfsStart n v).2.length = 1 := rfl
    obtain rfl : k = 0 := by omega
    omega
  closed := fun k hk => by omega
theorem getD_memI {xs : List Int} {k : Nat} (h : k < xs.length) : xs.getD k 0 ∈ xs := by
  rw [List.getD_eq_getElem?_getD, List.getElem?_eq_getElem h]
  exact List.getElem_mem h
theorem getD_app {xs ys : List Int} {k : Nat} (h : k < xs.length) : (xs ++ ys).getD k 0 = xs.getD k 0 := by
  rw [List.getD_eq_getElem?_getD, List.getElem?_append_left h, ← List.getD_eq_getElem?_getD]
theorem getD_last {xs : List Int} {x : Int} : (xs ++ [x]).getD xs.length 0 = x := by simp [List.getD_eq_getElem?_getD]
theorem BD.one {n : Net} {v i : Nat} {st : List Int × List Int} {x : Int} (hI : BI n.ends.length st) (hR : BR n v st) (h : BD n v st i) (hi : i < st.2.length) (hx : x ∈ bsee n (st.2.getD i 0)) (hxr : 0 ≤ x ∧ x < n.ends.length) :
    BD n v (bstep (st.2.getD i 0) st x) i ∧ x ∈ (bstep (st.2.getD i 0) st x).2 ∧ dAt (bstep (st.2.getD i 0) st x) x ≤ dAt (bstep (st.2.getD i 0) st x) (st.2.getD i 0) + 1 ∧ (∀ y ∈ st.2, y ∈ (bstep (st.2.getD i 0) st x).2 ∧ dAt (bstep (st.2.getD i 0) st x) y = dAt st y) := by
  have hc : st.2.getD i 0 ∈ st.2 := getD_memI hi
  obtain ⟨c, hcd⟩ : ∃ c, c = st.2.getD i 0 := ⟨_, rfl⟩
  have hlen := hI.len
  have hxn : ((x.toNat : Nat) : Int) = x := by omega
  rw [← hcd] at hc hx ⊢
  unfold bstep
  split
  · rename_i hneg
    have keep : ∀ y ∈ st.2, y.toNat ≠ x.toNat := fun y hy e => by
      have h1 := hI.walk y hy
      have h2 := (hR.seen y.toNat (by omega)).2 (by rw [show ((y.toNat : Nat) : Int) = y by omega]; exact hy)
      rw [e] at h2
      omega
    have kd : ∀ y ∈ st.2, dAt (st.1.set x.toNat (st.1.getD c.toNat 0 + 1), st.2 ++ [x]) y = dAt st y := fun y hy => by
      unfold dAt
      show (st.1.set x.toNat _).getD y.toNat 0 = _
      rw [List.getD_eq_getElem?_getD, List.getElem?_set_ne (fun e => keep y hy e.symm), ← List.getD_eq_getElem?_getD]
    have kx : dAt (st.1.set x.toNat (st.1.getD c.toNat 0 + 1), st.2 ++ [x]) x = dAt st c + 1 := by
      unfold dAt
      show (st.1.set x.toNat _).getD x.toNat 0 = _
      rw [List.getD_eq_getElem?_getD, List.getElem?_set_self (by omega)]
      rfl
    have kl : ∀ k, k < (st.2 ++ [x]).length → (k < st.2.length ∧ (st.2 ++ [x]).getD k 0 = st.2.getD k 0) ∨ (k = st.2.length ∧ (st.2 ++ [x]).getD k 0 = x) := fun k hk => by
      rw [List.length_append, List.length_singleton] at hk
      rcases Nat.lt_or_ge k st.2.length with h1 | h1
      · exact .inl ⟨h1, getD_app h1⟩
      · obtain rfl : k = st.2.length := by omega
        exact .inr ⟨rfl, getD_last⟩
    refine ⟨⟨?_, ?_, ?_, ?_, ?_⟩, by simp, by rw [kx, kd c hc]; omega, fun y hy => ⟨List.mem_append_left _ hy, kd y hy⟩⟩
    · rw [kd _ hR.start]; exact h.zero
    · intro z hz hne
      rcases List.mem_append.1 hz with hz | hz
      · obtain ⟨y, hy, h1, h2⟩ := h.par z hz hne
        exact ⟨y, List.mem_append_left _ hy, h1, by rw [kd y hy, kd z hz]; exact h2⟩
      · obtain rfl : z = x := by simpa using hz
        exact ⟨c, List.mem_append_left _ hc, hx, by rw [kd c hc, kx]⟩
    · intro j k hjk hk
      have hk : k < (st.2 ++ [x]).length := hk
      rcases kl k hk with ⟨hk1, ek⟩ | ⟨hk1, ek⟩
      · rcases kl j (by omega) with ⟨hj1, ej⟩ | ⟨hj1, ej⟩
        · rw [ek, ej, kd _ (getD_memI hk1), kd _ (getD_memI hj1)]; exact h.sorted j k hjk hk1
        · omega
      · rw [ek, kx]
        rcases kl j (by omega) with ⟨hj1, ej⟩ | ⟨hj1, ej⟩
        · rw [ej, kd _ (getD_memI hj1), hcd]; exact h.span j hj1 hi
        · rw [ej, kx]; exact Int.le_refl _
    · intro k hk _
      have ei : (st.2 ++ [x]).getD i 0 = c := by rw [getD_app hi, hcd]
      rw [ei, kd c hc]
      rcases kl k hk with ⟨hk1, ek⟩ | ⟨hk1, ek⟩
      · rw [ek, kd _ (getD_memI hk1), hcd]; exact h.span k hk1 hi
      · rw [ek, kx]; exact Int.le_refl _
    · intro k hk _ z hz
      have hk1 : k < st.2.length := by omega
      have ek : (st.2 ++ [x]).getD k 0 = st.2.getD k 0 := getD_app hk1
      rw [ek] at hz ⊢
      obtain ⟨h1, h2⟩ := h.closed k hk hk1 z hz
      exact ⟨List.mem_append_left _ h1, by rw [kd _ h1, kd _ (getD_memI hk1)]; exact h2⟩
  · rename_i hneg
    have hxm : x ∈ st.2 := by
      have := (hR.seen x.toNat (by omega)).1 (by omega)
      rwa [hxn] at this
    refine ⟨h, hxm, ?_, fun y hy => ⟨hy, rfl⟩⟩
    obtain ⟨k, hk, e⟩ := List.mem_iff_getElem.1 hxm
    have := h.span k hk hi
    rw [← hcd, show st.2.getD k 0 = x by rw [List.getD_eq_getElem?_getD, List.getElem?_eq_getElem hk]; exact e] at this
    exact this
theorem BD.fold {n : Net} {v i : Nat} {c : Int} : ∀ (xs : List Int) {st : List Int × List Int}, BI n.ends.length st → BR n v st → BD n v st i → i < st.2.length → st.2.getD i 0 = c → (∀ x ∈ xs, x ∈ bsee n c ∧ 0 ≤ x ∧ x < n.ends.length) →
    BD n v (xs.foldl (bstep c) st) i ∧ (∀ x ∈ xs, x ∈ (xs.foldl (bstep c) st).2 ∧ dAt (xs.foldl (bstep c) st) x ≤ dAt (xs.foldl (bstep c) st) c + 1) ∧ (∀ y ∈ st.2, y ∈ (xs.foldl (bstep c) st).2 ∧ dAt (xs.foldl (bstep c) st) y = dAt st y)
  | [], _, _, _, h, _, _, _ => ⟨h, fun _ hx => by simp at hx, fun y hy => ⟨hy, rfl⟩⟩
  | x :: xs, st, hI, hR, h, hi, hc, hxs => by
    have hx := hxs x (List.mem_cons_self ..)
    have hcm : c ∈ st.2 := by rw [← hc]; exact getD_memI hi
    have h1 := BD.one hI hR h hi (by rw [hc]; exact hx.1) hx.2
    rw [hc] at h1
    obtain ⟨g1, g2, g3, g4⟩ := h1
    obtain ⟨ys, hw⟩ := bstep_walk c st x
    have hi2 : i < (bstep c st x).2.length := by rw [hw, List.length_append]; omega
    have hc2 : (bstep c st x).2.getD i 0 = c := by rw [hw, getD_app hi]; exact hc
    obtain ⟨k1, k2, k3⟩ := BD.fold xs (hI.step (hI.walk c hcm) hx.2) (BR.one hI hR hcm hx.1 hx.2).1 g1 hi2 hc2 (fun y hy => hxs y (List.mem_cons_of_mem _ hy))
    refine ⟨k1, fun y hy => ?_, fun y hy => ?_⟩
    · rcases List.mem_cons.1 hy with rfl | hy
      · obtain ⟨m1, m2⟩ := k3 y g2
        obtain ⟨_, m4⟩ := k3 c (g4 c hcm).1
        refine ⟨m1, ?_⟩
        show dAt (xs.foldl (bstep c) (bstep c st y)) y ≤ dAt (xs.foldl (bstep c) (bstep c st y)) c + 1
        rw [m2, m4]
        exact g3
      · exact k2 y hy
    · obtain ⟨m1, m2⟩ := g4 y hy
      obtain ⟨m3, m4⟩ := k3 y m1
      exact ⟨m3, m4.trans m2⟩
theorem bfs_distI {n : Net} (hn : netOk n = true) {v : Nat} : ∀ (f : Nat) (st : List Int × List Int) (i : Nat), BI n.ends.length st → BR n v st → BD n v st i → i ≤ st.2.length → n.ends.length < f + i →
    ∃ st' : List Int × List Int, bfs n f st i = st'.1 ∧ BI n.ends.length st' ∧ BR n v st' ∧ BD n v st' st'.2.length
  | 0, st, i, hI, _, _, hi, hf => by have := hI.bd; omega
  | f + 1, st, i, hI, hR, hD, hi, hf => by
    unfold bfs
    by_cases hlt : i < st.2.length
    · rw [if_pos hlt]
      have hc : st.2.getD i 0 ∈ st.2 := getD_memI hlt
      have hcr := hI.walk _ hc
      have hin := see_in hn hcr
      have h1 := BR.fold (cur := st.2.getD i 0) (bsee n (st.2.getD i 0)) hI hR hc (fun x hx => ⟨hx, hin x hx⟩)
      obtain ⟨k1, k2, k3⟩ := BD.fold (bsee n (st.2.getD i 0)) hI hR hD hlt rfl (fun x hx => ⟨hx, hin x hx⟩)
      obtain ⟨ys, hw⟩ := fold_walk (st.2.getD i 0) (bsee n (st.2.getD i 0)) st
      have hlen : i < ((bsee n (st.2.getD i 0)).foldl (bstep (st.2.getD i 0)) st).2.length := by rw [hw, List.length_append]; omega
      refine bfs_distI hn f _ (i + 1) (hI.fold hcr _ hin) h1.1 ⟨k1.zero, k1.par, k1.sorted, fun k hk hi2 => ?_, fun k hk hk2 x hx => ?_⟩ (by omega) (by omega)
      · have m1 := k1.span k hk hlen
        have m2 := k1.sorted i (i + 1) (by omega) hi2
        omega
      · by_cases e : k = i
        · subst e
          have ek : ((bsee n (st.2.getD k 0)).foldl (bstep (st.2.getD k 0)) st).2.getD k 0 = st.2.getD k 0 := by rw [hw, getD_app hlt]
          rw [ek] at hx ⊢
          exact k2 x hx
        · exact k1.closed k (by omega) hk2 x hx
    · rw [if_neg hlt]
      obtain rfl : i = st.2.length := by omega
      exact ⟨st, rfl, hI, hR, hD⟩
/-- the distances, told from the network -/
structure DistIs (n : Net) (v : Nat) (D : Nat → Int) : Prop where
  zero : D v = 0
  par : ∀ x : Nat, Rch n v x → x ≠ v → ∃ y : Nat, Rch n v y ∧ (x : Int) ∈ bsee n (y : Int) ∧ D y + 1 = D x
  nb : ∀ a b : Nat, Rch n v a → (b : Int) ∈ bsee n (a : Int) → D b ≤ D a + 1
  pos : ∀ x : Nat, Rch n v x → 0 ≤ D x
theorem dist_is {n : Net} (hn : netOk n = true) {v : Nat} (hv : v < n.ends.length) : DistIs n v (fun w => (distB n v).getD w 0) := by
  obtain ⟨st, h1, hI, hR, hD⟩ := bfs_distI hn (n.ends.length + 1) (bfsStart n v) 0 (BI.start hv) (BR.begin hv) (BD.begin hv) (Nat.zero_le _) (by omega)
  have e : distB n v = st.1 := h1
  have hm : ∀ x : Nat, Rch n v x → (x : Int) ∈ st.2 := fun x hx => by
    have hxl := rch_lt hn hv hx
    have := (dist_iff hn hv hxl).2 hx
    rw [e] at this
    exact (hR.seen x hxl).1 this
  refine ⟨?_, fun x hx hne => ?_, fun a b ha hb => ?_, fun x hx => (dist_iff hn hv (rch_lt hn hv hx)).2 hx⟩
  · have := hD.zero
    show (distB n v).getD v 0 = 0
    rw [e]; simpa [dAt] using this
  · obtain ⟨y, hy, h2, h3⟩ := hD.par x (hm x hx) (by omega)
    have hyr := hI.walk y hy
    obtain ⟨k, rfl⟩ := Int.eq_ofNat_of_zero_le hyr.1
    refine ⟨k, ?_, h2, ?_⟩
    · have := hR.rch _ hy; simpa using this
    · show (distB n v).getD k 0 + 1 = (distB n v).getD x 0
      rw [e]; simpa [dAt] using h3
  · obtain ⟨k, hk, hke⟩ := List.mem_iff_getElem.1 (hm a ha)
    have := (hD.closed k hk hk (b : Int) (by rw [List.getD_eq_getElem?_getD, List.getElem?_eq_getElem hk]; simpa [hke] using hb)).2
    show (distB n v).getD b 0 ≤ (distB n v).getD a 0 + 1
    rw [e]
    rw [show st.2.getD k 0 = (a : Int) by rw [List.getD_eq_getElem?_getD, List.getElem?_eq_getElem hk]; exact hke] at this
    simpa [dAt] using this
end Go.Proofs.YtfkmkpamdlhbgaaGreat
