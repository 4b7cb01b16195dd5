/- Parts of the proof: walks of functions and plain laws. -/
import Derived.Test.YtomnaabadohecaaP5
import Derived.Test.YtomnaabadohecaaP7
import Derived.Laws.CopyOwn
import Derived.Shelf.Bits.Mul64
import Derived.Test.YtomnaabadohecaaP10
import Derived.Test.YtomnaabadohecaaP8
import Derived.Test.YtomnaabadohecaaP0
namespace Go.Proofs.Ytomnaabadohecaa
open Go.RowKit
def repRow (x : Int) (N j : Nat) : List Value := List.replicate j (.int .i64 x) ++ List.replicate (N - j) (.int .i64 0)
theorem repRow_len {x : Int} {N j : Nat} (h : j ≤ N) : (repRow x N j).length = N := by simp [repRow]; omega
theorem repRow_splice {x : Int} {N j m : Nat} (h : j + m ≤ N) : splice (repRow x N j) j (List.replicate m (.int .i64 x)) = repRow x N (j + m) := by
  unfold splice repRow
  rw [List.take_append_of_le_length (by simp), List.take_replicate, Nat.min_self, List.length_replicate, List.drop_append, List.drop_replicate, List.length_replicate, List.drop_replicate, show j - (j + m) = 0 by omega, show N - j - (j + m - j) = N - (j + m) by omega, List.replicate_zero, List.nil_append, ← List.append_assoc, List.replicate_append_replicate]
theorem own_rep {w : World} {base g N : Nat} {x : Int} (h : w.heap[g]? = some (.cells (repRow x N N).toArray 3 (0, 0))) (hb : base ≤ g) (hN : N ≤ 1000000) : Own w base (.slice (some ⟨g, 0, none⟩) N N) (List.replicate N x) := by
  unfold Own
  refine ⟨by simp, .inr ⟨g, N, _, by simp, hb, h, by simp, by unfold maxLen; omega, by simp [repRow], ?_⟩⟩
  simp [repRow]
theorem repRow_cell {w : World} {g N j : Nat} {x : Int} (h : w.heap[g]? = some (.cells (repRow x N j).toArray 3 (0, 0))) {i : Nat} (hi : i < j) : w.cell? ⟨g, i, none⟩ = some (.int .i64 x) := by
  have : (repRow x N j)[i]? = some (.int .i64 x) := by
    unfold repRow
    rw [List.getElem?_append_left (by simpa using hi)]
    simp [hi]
  simp [World.cell?, h, this]
theorem rep_src {w : World} {b : Nat} {x : Int} (h : w.cell? ⟨b, 0, none⟩ = some (.int .i64 x)) {j : Nat} {v : Value} (hj : (List.replicate 1 (Value.int .i64 x))[j]? = some v) : w.cell? ((⟨b, 0, none⟩ : Addr).add j) = some v := by
  have h1 := lt_of_get hj
  simp at h1
  subst h1
  simp at hj
  subst hj
  rw [Go.Addr.add_lit]
  exact h
theorem rep_src2 {w : World} {g N j m : Nat} {x : Int} (h : w.heap[g]? = some (.cells (repRow x N j).toArray 3 (0, 0))) (hm : m ≤ j) {i : Nat} {v : Value} (hi : (List.replicate m (Value.int .i64 x))[i]? = some v) : w.cell? ((⟨g, 0, none⟩ : Addr).add i) = some v := by
  have h1 := lt_of_get hi
  rw [List.length_replicate] at h1
  rw [List.getElem?_replicate, if_pos h1] at hi
  rw [← Option.some.inj hi, Go.Addr.add_lit, Nat.zero_add]
  exact repRow_cell h (by omega)
set_option maxRecDepth 100000 in
set_option maxHeartbeats 4000000 in
theorem repeat1_any (b c : Nat) (x : Int) (N : Nat) (w : World) (hN : 1 ≤ N) (hN2 : N ≤ 1000000) (hc : w.cell? ⟨b, 0, none⟩ = some (.int .i64 x)) :
    Calls Try.prog 62 #[.slice (some ⟨b, 0, none⟩) 1 c, .int .i64 N] w fun e w' => ∃ u, e = .returned u ∧ Own w' w.heap.size u (List.replicate N x) ∧ Below w.heap.size w w' := by
  have e1 : IntKind.u64.wrap (N : Int) = N := IntWalk.u64_in _ (by omega)
  have hm := Try.bits_Mul 1 N (by omega) (by omega) w
  rw [show (1 * N / 18446744073709551616 : Nat) = 0 by omega, show (1 * N % 18446744073709551616 : Nat) = N by omega] at hm
  have Hm := Lib.hid hm
  have e2 : IntKind.i64.wrap (N : Int) = N := wr64 _ (by omega) (by omega)
  have m2 := run_mk_ints N hN2
  have Hc := Lib.hid hc
  have hn0 : ¬ ((N : Int) < 0) := by omega
  have hbig : ¬ (9223372036854775807 < (N : Int)) := by omega
  clear hm hc
  go_enter Try.func62, Try.ntmps62
  go_wp2_with fail
  refine Hm.out.mono ?_
  rintro e w1 ⟨rfl, rfl⟩
  have HG2 : Hid ((w1.alloc (.cells (Array.replicate N (Value.int .i64 0)) 3)).heap[w1.heap.size]? = some (.cells (repRow x N 0).toArray 3 (0, 0))) := by
    show (w1.heap.push _)[w1.heap.size]? = _
    rw [Array.getElem?_push_size]
    simp [repRow]
  go_wp2_with (refine wpList_copy_splice rfl _ _ 23 23 rfl 3 Try.underlying23 (by kernel_rfl) (some ⟨w1.heap.size, 0, none⟩) (some ⟨b, 0, none⟩) N N 1 c rfl rfl w1.heap.size 0 (repRow x N 0) 3 HG2.out (List.replicate 1 (.int .i64 x)) (by rw [List.length_replicate]; exact (Nat.min_eq_left hN).symm) (fun _ => ⟨rfl, _, rfl, fun j v hj => rep_src (bc (below_alloc _ _) Hc.out) hj⟩) (by rw [repRow_len (Nat.zero_le _), List.length_replicate]; omega) (by simp [Value.oneCell']) w1.heap.size w1 (below_alloc _ _) (Nat.le_refl _) ?_; intro w3 hg3 hb3)
  obtain ⟨g, hg⟩ : ∃ g, g = w1.heap.size := ⟨_, rfl⟩
  have Hg := Lib.hid hg
  rw [← hg] at hg3 ⊢
  clear hg
  have HG3 : Hid (w3.heap[g]? = some (.cells (repRow x N 1).toArray 3 (0, 0))) := by
    have := hg3.out
    rw [show List.replicate 1 (Value.int .i64 x) = List.replicate 1 (.int .i64 x) from rfl, repRow_splice (by omega)] at this
    exact this
  have HB3 := Lib.hid hb3
  clear hg3 hb3
  go_wp2
  go_loopw [8] (fun nv wr => ∃ j : Nat, 1 ≤ j ∧ j ≤ N ∧ nv = .int .i64 j ∧ wr.heap[g]? = some (.cells (repRow x N j).toArray 3 (0, 0)) ∧ Below w1.heap.size w1 wr) (fun nv _ => N - (intOf nv).toNat)
  case atStart => exact ⟨1, Nat.le_refl _, hN, rfl, HG3.out, HB3.out⟩
  case round =>
    obtain ⟨j, hj1, hj, rfl, hgr, hb⟩ := hrel
    have HG := Lib.hid hgr
    have HB := Lib.hid hb
    clear hgr hb
    by_cases hlt : j < N
    · obtain ⟨m, hm⟩ : ∃ m, m = min j (N - j) := ⟨_, rfl⟩
      have hm1 : 1 ≤ m := by omega
      have hm2 : j + m ≤ N := by omega
      have hmj : m ≤ j := by omega
      have hNj : ¬ N = j := by omega
      have Hmm := Lib.hid hm
      clear hm
      have m3 : IntKind.i64.wrap ((j : Int) + m) = (j : Int) + m := wr64 _ (by omega) (by omega)
      have hs0 : Since w1 wr := HB.out
      go_upto_region 9 with (fail)
      refine wp_region_chain0 (w0 := w1) 9 [false, false, false, false, false, false, false, true, true] (by kernel_rfl) (by kernel_rfl) (hs0) ?_
      simp only [selF, selT, List.take_succ_cons, List.take_zero, List.drop_succ_cons, List.drop_zero]
      refine pflow_val (v := ?_) rfl ?_ ?_; rotate_left; (intro W hW; go_simp; with_reducible rfl)
      simp only [Act.put, List.setIfInBounds_toArray, List.set_cons_succ, List.set_cons_zero]
      refine pflow_val (v := ?_) rfl ?_ ?_; rotate_left; (intro W hW; go_simp; with_reducible rfl)
      simp only [Act.put, List.setIfInBounds_toArray, List.set_cons_succ, List.set_cons_zero]
      refine pflow_val (v := ?_) rfl ?_ ?_; rotate_left; (intro W hW; go_simp; with_reducible rfl)
      simp only [Act.put, List.setIfInBounds_toArray, List.set_cons_succ, List.set_cons_zero]
      refine pflow_val (v := ?_) rfl ?_ ?_; rotate_left; (intro W hW; go_simp; with_reducible rfl)
      simp only [Act.put, List.setIfInBounds_toArray, List.set_cons_succ, List.set_cons_zero]
      refine pflow_val (v := ?_) rfl ?_ ?_; rotate_left; (intro W hW; go_simp; with_reducible rfl)
      simp only [Act.put, List.setIfInBounds_toArray, List.set_cons_succ, List.set_cons_zero]
      refine pflow_val (v := ?_) rfl ?_ ?_; rotate_left; (intro W hW; go_simp; with_reducible rfl)
      simp only [Act.put, List.setIfInBounds_toArray, List.set_cons_succ, List.set_cons_zero]
      refine pflow_val (v := ?_) rfl ?_ ?_; rotate_left; (intro W hW; go_simp; with_reducible rfl)
      simp only [Act.put, List.setIfInBounds_toArray, List.set_cons_succ, List.set_cons_zero]
      obtain ⟨W, hWd⟩ : ∃ W, W = World.drew wr := ⟨_, rfl⟩
      rw [← hWd]
      have hW : Since w1 W := by rw [hWd]; exact since_drew (hs0)
      refine tflow_of_wp (fun Q' HQ => ?_)
      (refine wpList_copy_splice rfl _ _ 23 23 rfl 3 Try.underlying23 (by kernel_rfl) (some ⟨g, j, none⟩) (some ⟨g, 0, none⟩) (N - j) (N - j) j N (by go_simp) (by go_simp) g j (repRow x N j) 3 (by rw [hWd]; exact HG.out) (List.replicate m (.int .i64 x)) (by rw [List.length_replicate]; exact Hmm.out) (fun _ => ⟨rfl, _, rfl, fun i v hi => rep_src2 (by rw [hWd]; exact HG.out) hmj hi⟩) (by rw [repRow_len hj]; simpa using hm2) (by simp [Value.oneCell']) w1.heap.size w1 hW (by rw [Hg.out]; exact Nat.le_refl _) ?_); intro w4 hg4 hb4; refine HQ _ _ hb4 ?_; replace hW : Since w1 w4 := hb4; simp only [List.length_replicate, goInt]
      (try simp only [Act.put, List.setIfInBounds_toArray, List.set_cons_succ, List.set_cons_zero])
      refine tflow_val (v := ?_) rfl ?_ hW ?_; rotate_left; (go_simp; with_reducible rfl)
      simp only [Act.put, List.setIfInBounds_toArray, List.set_cons_succ, List.set_cons_zero]
      simp only [TFlow]
      have HG4 : Hid (w4.heap[g]? = some (.cells (repRow x N (j + m)).toArray 3 (0, 0))) := by
        have := hg4.out
        rw [repRow_splice hm2] at this
        exact this
      have HB4 := Lib.hid hW
      clear hg4 hb4 hW hWd hs0
      go_wp2
      go_roundw
      case rel => exact ⟨j + m, by omega, hm2, by go_num, HG4.out, HB4.out⟩
      case measure => simp [intOf]; omega
    · obtain rfl : j = N := by omega
      go_wp2
      go_ret
      exact ⟨_, rfl, own_rep HG.out (by rw [Hg.out]; exact Nat.le_refl _) hN2, HB.out⟩
end Go.Proofs.Ytomnaabadohecaa
namespace Go.Proofs.Ytomnaabadohecaa
open Go.RowKit
/-! the program's search -/
section
variable {W W' : World} {B : Nat} {ve vi vn va vl : Value}
end
/-- the verifier, in every world since w0 -/
def AccOn (w0 : World) (fid : FuncId) (b : Nat) (n : Net) (most : Int) (acc : List Int → Nat → Bool) : Prop :=
  ∀ W vl ls k, Since w0 W → IntS W vl ls → ls.length = n.ends.length → k < n.ends.length → (∀ x ∈ ls.getD k 0 :: nearB ls (n.ends.getD k []), 0 ≤ x ∧ x ≤ most) →
    Calls Try.prog fid #[vl, .int .i64 k, .pointer (some ⟨b, 0, none⟩), .pointer (some ⟨b + 1, 0, none⟩)] W fun e w' => e = .returned (.bool (acc ls k)) ∧ Below W.heap.size W w'
theorem AccOn.use {w0 : World} {fid : FuncId} {b : Nat} {n : Net} {most : Int} {acc : List Int → Nat → Bool} (h : AccOn w0 fid b n most acc) (W : World) (vl : Value) (ls : List Int) (k : Nat) (h1 : Since w0 W) (h2 : IntS W vl ls) (h3 : ls.length = n.ends.length) (h4 : k < n.ends.length) (h5 : ∀ x ∈ ls.getD k 0 :: nearB ls (n.ends.getD k []), 0 ≤ x ∧ x ≤ most) :
    Calls Try.prog fid #[vl, .int .i64 k, .pointer (some ⟨b, 0, none⟩), .pointer (some ⟨b + 1, 0, none⟩)] W fun e w' => e = .returned (.bool (acc ls k)) ∧ Below W.heap.size W w' := h W vl ls k h1 h2 h3 h4 h5
def accV (fid : FuncId) (b : Nat) : Value := .func (.func fid) #[] #[.pointer (some ⟨b, 0, none⟩), .pointer (some ⟨b + 1, 0, none⟩)]
set_option maxHeartbeats 4000000 in
theorem noMatching_any (ve vi vn : Value) (n : Net) (w : World) (h : NetIn w ve vi vn n) (hN : 1 ≤ n.ends.length) (hN2 : n.ends.length ≤ 1000000) :
    Calls Try.prog 43 #[.agg #[ve, vi, vn]] w fun e w' => ∃ u, e = .returned u ∧ Own w' w.heap.size u (List.replicate n.ends.length (-1)) ∧ Below w.heap.size w w' := by
  obtain ⟨w0, hw0⟩ : ∃ w0, w0 = (w).alloc (.cells #[ve, vi, vn] 31) := ⟨_, rfl⟩
  have hb0 : Below w.heap.size w w0 := by rw [hw0]; exact ((Below.refl _ _).alloc (by simp) _)
  have H := Lib.hid (h.keep hb0)
  obtain ⟨h1, h2, h3⟩ := h.keep hb0
  obtain ⟨A, c, rfl, hlc, hm, hA⟩ := h1
  obtain ⟨A2, c2, rfl, _, hm2, _⟩ := h2
  obtain ⟨A3, c3, rfl, _, hm3, _⟩ := h3
  unfold maxLen at hm hm2 hm3
  have p00 : ∀ W, Since w0 W → W.cell? ⟨w.heap.size, 0, none⟩ = some (.slice A n.ends.length c) := have_cell (by rw [hw0]; simp)
  have p01 : ∀ W, Since w0 W → W.cell? ⟨w.heap.size, 1, none⟩ = some (.slice A2 n.ids.length c2) := have_cell (by rw [hw0]; simp)
  have p02 : ∀ W, Since w0 W → W.cell? ⟨w.heap.size, 2, none⟩ = some (.slice A3 n.inputs.length c3) := have_cell (by rw [hw0]; simp)
  have Hb0 := Lib.hid hb0
  have Hw0 := Lib.hid hw0
  have HA := Lib.hid hA
  clear hA h
  clear hb0 hw0
  go_enter Try.func43, Try.ntmps43
  go_upto_region 1 with (fail)
  rw [← Hw0.out]
  go_wp2_with fail
  refine (repeat1_any w0.heap.size 1 (-1) n.ends.length _ hN hN2 (by simp)).mono ?_
  rintro e w1 ⟨u, rfl, ho, hb⟩
  have Ho := Lib.hid ho
  have Hb : Hid (Since w0 w1) := Since.after (since_alloc _ (since_refl _)) hb
  clear ho hb
  go_wp2
  go_ret
  exact ⟨_, rfl, Ho.out.mono (by have := Hb0.out.size; simp; omega), Since.after Hb0.out Hb.out⟩
end Go.Proofs.Ytomnaabadohecaa
namespace Go.Proofs.Ytomnaabadohecaa
open Go.RowKit
theorem near_upto {N : Nat} {es : List (Int × Int)} (h : ∀ e ∈ es, 0 ≤ e.1 ∧ e.1 < N) : nearB (upto N) es = es.map fun e => e.1 := by
  unfold nearB
  apply List.map_congr_left
  intro e he
  obtain ⟨h1, h2⟩ := h e he
  rw [List.getD_eq_getElem?_getD, upto_get (by omega)]
  simp
  omega
end Go.Proofs.Ytomnaabadohecaa
namespace Go.Proofs.Ytomnaabadohecaa
open Go.RowKit
def srchA (n : Net) (acc : List Int → Nat → Bool) (most lim : Int) : List Int × Int × Int := srch (goodG n acc) most lim (leftM lim 0 n.ends.length 0) (List.replicate n.ends.length (-1)) 0 0
theorem tupuii {u : Value} {r : List Int × Int × Int} {a b : Int} (h : r.2 = (a, b)) : Ending.returned (.tuple #[u, .int .i64 a, .int .i64 b]) = .returned (.tuple #[u, .int .i64 r.2.1, .int .i64 r.2.2]) := by rw [h]
end Go.Proofs.Ytomnaabadohecaa
namespace Go.Proofs.Ytomnaabadohecaa
open Go.RowKit
def tcHas (R : Option (Option (List Int))) : Bool := match R with | some (some _) => true | _ => false
def TcU (len : Nat) (R : Option (Option (List Int))) (U : Value) : Prop := match R with | some (some _) => ∃ g c, U = .slice (some ⟨g, 0, none⟩) len c | _ => U = .slice none 0 0
def tcAll (n : Net) : Option (Option (List Int)) := tcRun n 400002 (List.replicate n.ends.length (-1)) 0 0
set_option maxRecDepth 100000 in
set_option maxHeartbeats 8000000 in
theorem threeColouring_any (ve vi vn : Value) (n : Net) (w : World) (h : NetIn w ve vi vn n) (hn : netOk n = true) :
    Calls Try.prog 19 #[.agg #[ve, vi, vn]] w fun e w' => ∃ U, e = .returned (.tuple #[U, .bool (tcAll n).isSome]) ∧ TcU n.ends.length (tcAll n) U ∧ Below w.heap.size w w' := by
  have hn40 := netOk_len hn
  have hn1 := hn40.1
  have hn2 := hn40.2
  clear hn40
  have HRow : Hid (∀ (k : Nat) (es : List (Int × Int)), n.ends[k]? = some es → es.length ≤ 6 ∧ ∀ e ∈ es, 0 ≤ e.1 ∧ e.1 < n.ends.length) := fun (k : Nat) (es : List (Int × Int)) he => netOk_row hn he
  clear hn
  obtain ⟨R, hR⟩ : ∃ R, R = tcAll n := ⟨_, rfl⟩
  rw [← hR]
  have HR := Lib.hid hR
  clear hR
  obtain ⟨w0, hw0⟩ : ∃ w0, w0 = (w).alloc (.cells #[ve, vi, vn] 31) := ⟨_, rfl⟩
  have hb0 : Below w.heap.size w w0 := by rw [hw0]; exact ((Below.refl _ _).alloc (by simp) _)
  have H := Lib.hid (h.keep hb0)
  obtain ⟨h1, h2, h3⟩ := h.keep hb0
  obtain ⟨A, c, rfl, hlc, hm, hA⟩ := h1
  obtain ⟨A2, c2, rfl, _, hm2, _⟩ := h2
  obtain ⟨A3, c3, rfl, _, hm3, _⟩ := h3
  unfold maxLen at hm hm2 hm3
  have p00 : ∀ W, Since w0 W → W.cell? ⟨w.heap.size, 0, none⟩ = some (.slice A n.ends.length c) := have_cell (by rw [hw0]; simp)
  have p01 : ∀ W, Since w0 W → W.cell? ⟨w.heap.size, 1, none⟩ = some (.slice A2 n.ids.length c2) := have_cell (by rw [hw0]; simp)
  have p02 : ∀ W, Since w0 W → W.cell? ⟨w.heap.size, 2, none⟩ = some (.slice A3 n.inputs.length c3) := have_cell (by rw [hw0]; simp)
  have Hb0 := Lib.hid hb0
  have Hw0 := Lib.hid hw0
  have HA := Lib.hid hA
  clear hA h
  clear hb0 hw0
  have hs0 : Since w0 w0 := since_refl _
  go_enter Try.func19, Try.ntmps19
  go_upto_region 1 with (fail)
  rw [← Hw0.out]
  go_wp2_with fail
  refine (noMatching_any _ _ _ n w0 H.out hn1 (by omega)).mono ?_
  rintro e w1 ⟨u, rfl, ho, hb1⟩
  obtain ⟨g, cU, rfl, hUl, hUm⟩ : ∃ g cU, u = .slice (some ⟨g, 0, none⟩) n.ends.length cU ∧ n.ends.length ≤ cU ∧ cU ≤ maxLen := by
    rcases ownsRow_cases ho with ⟨h0, h0'⟩ | ⟨g, cc, h0, _, _, h3, h4⟩
    · rw [List.length_replicate] at h0'; omega
    · rw [List.length_replicate] at h0 h3; exact ⟨g, cc, h0, h3, h4⟩
  unfold maxLen at hUm
  have Ho1 := Lib.hid ho
  have Hgr := Lib.hid (World.ownsRow.lt ho g (by simp [Value.ownBlock])).1
  have HS1 := Lib.hid (hs0.trans hb1)
  clear ho hb1 hs0
  go_wp2
  go_loopw [5, 6] (fun us uv wr => ∃ (l : List Int) (v : Int) (s f : Nat), us = .int .i64 (s : Int) ∧ uv = .int .i64 v ∧ Own wr w0.heap.size (.slice (some ⟨g, 0, none⟩) n.ends.length cU) l ∧ TcSt n l v s f ∧ tcRun n f l v s = R ∧ Since w0 wr) (fun us uv _ => tcMu (intOf uv) (intOf us).toNat)
  case atStart => exact ⟨_, 0, 0, 400002, rfl, rfl, Ho1.out, tc_start, HR.out.symm, HS1.out⟩
  case round =>
    obtain ⟨l, v, s, f, rfl, rfl, ho, hst, hrun, hsr⟩ := hrel
    have Ho := Lib.hid ho
    have Hst := Lib.hid hst
    have Hrun := Lib.hid hrun
    have hlen := hst.len
    have hlo := hst.lo
    have hhi := hst.hi
    have hss := hst.st
    clear ho hrun hst
    by_cases hv : (n.ends.length : Int) ≤ v
    · have hr : Hid (R = some (some l)) := by show _ = _; rw [← Hrun.out]; exact tc_done Hst.out hv
      have HS := Lib.hid hsr
      obtain rfl : v = (n.ends.length : Int) := by omega
      clear hsr hv hlo hhi hss
      go_wp2
      go_ret2
      exact ⟨_, by rw [hr.out]; rfl, by rw [hr.out]; exact ⟨g, cU, rfl⟩, Since.after Hb0.out HS.out⟩
    · by_cases hv0 : v < 0
      · have hr : Hid (R = some none) := by show _ = _; rw [← Hrun.out]; exact tc_none Hst.out (by omega) hv0
        have HS := Lib.hid hsr
        have hvl : v < (n.ends.length : Int) := by omega
        clear hsr hv hlo hhi hss
        go_wp2
        go_ret2
        exact ⟨_, by rw [hr.out]; rfl, by rw [hr.out]; rfl, Since.after Hb0.out HS.out⟩
      · obtain ⟨k, rfl⟩ := Int.eq_ofNat_of_zero_le (show 0 ≤ v by omega)
        have hk : k < n.ends.length := by omega
        obtain ⟨x, hx⟩ := getx l k (by omega)
        have hxr := Hst.out.rng x (List.mem_of_getElem? hx)
        obtain ⟨f', rfl⟩ := tc_fuel Hst.out
        have cz := Ho.out.cell hx
        have fz := Ho.out.free k
        have Hx := Lib.hid hx
        have m1 : IntKind.i64.wrap ((k : Int) - 1) = (k : Int) - 1 := wr64 _ (by omega) (by omega)
        have m2 : IntKind.i64.wrap (x + 1) = x + 1 := wr64 _ (by omega) (by omega)
        have m3 : IntKind.i64.wrap ((s : Int) + 1) = (s : Int) + 1 := wr64 _ (by omega) (by omega)
        have m4 : IntKind.i64.wrap ((k : Int) + 1) = (k : Int) + 1 := wr64 _ (by omega) (by omega)
        clear hx hv hv0 hlo hhi
        by_cases h2 : x = 2
        · subst h2
          have Hb := Lib.hid (tc_back Hst.out hk Hx.out)
          clear m2 m3 m4 hxr
          go_wp2
          go_roundw
          case rel => exact ⟨l.set k (-1), (k : Int) - 1, s, f', rfl, by first | rfl | go_num, Ho.out.set (k := k) (-1), Hb.out.2, by rw [← Hb.out.1]; exact Hrun.out, hsr.setCell Hgr.out _⟩
          case measure => (simp [intOf, tcMu]; try omega)
        · have h2' : (x = 2) = False := by simp [h2]
          have h2b : (x == 2) = false := by simp [h2]
          by_cases hs : s = 200000
          · have hr : Hid (R = none) := by show _ = _; rw [← Hrun.out]; subst hs; exact tc_stop Hst.out hk Hx.out h2
            have HS := Lib.hid hsr
            have hs1 : ((s : Int) = 200000) = True := by simp; omega
            have hs2 : (s = 200000) = True := by simp [hs]
            have hs3 : ((s : Int) == 200000) = true := by simp; omega
            clear hsr m1 m2 m3 m4 hxr h2 hs hss
            go_wp2
            go_ret2
            exact ⟨_, by rw [hr.out]; rfl, by rw [hr.out]; rfl, Since.after Hb0.out HS.out⟩
          · have hs' : ((s : Int) = 200000) = False := by simp; omega
            have hs2 : (s = 200000) = False := by simp [hs]
            have hs3 : ((s : Int) == 200000) = false := by simp; omega
            have Hg := Lib.hid (tc_go Hst.out hk Hx.out h2 hs)
            have Hs := Lib.hid hs
            clear h2 hs hxr
            obtain ⟨es, hes⟩ := getx n.ends k hk
            obtain ⟨r1, r2⟩ := HRow.out k es hes
            have Hes := Lib.hid hes
            have Hr1 := Lib.hid r1
            have Hr2 := Lib.hid r2
            clear hes r1 r2
            go_upto_region 14 with (fail)
            obtain ⟨l2, hl2⟩ : ∃ l2, l2 = l.set k (x + 1) := ⟨_, rfl⟩
            rw [← hl2] at Hg
            obtain ⟨W0, hW0⟩ : ∃ W0, W0 = wr.setCell ⟨g, k, none⟩ (.int .i64 (x + 1)) := ⟨_, rfl⟩
            rw [← hW0]
            have Ho2 : Hid (Own W0 w0.heap.size (.slice (some ⟨g, 0, none⟩) n.ends.length cU) l2) := by show Own _ _ _ _; rw [hW0, hl2]; exact Ho.out.set (k := k) (x + 1)
            have hl2l : l2.length = n.ends.length := by rw [hl2, List.length_set]; exact hlen
            have hx2 : l2[k]? = some (x + 1) := by rw [hl2, List.getElem?_set_self (by omega)]
            have HS0 : Hid (Since w0 W0) := by show Since _ _; rw [hW0]; exact hsr.setCell Hgr.out _
            have c2 := have_cell (Ho2.out.cell hx2)
            have HIl := Lib.hid (show ∀ X, Since W0 X → IntS X (.slice (some ⟨g, 0, none⟩) n.ends.length cU) l2 from fun X hX => by have := (Own.since Ho2.out hX).ints; exact this)
            have t0 := lift_cell p00 HS0.out
            have t1 := lift_cell p01 HS0.out
            have t2 := lift_cell p02 HS0.out
            have hz : Since W0 W0 := since_refl _
            have Hl2l := Lib.hid hl2l
            have Hx2 := Lib.hid hx2
            have Hgd := Lib.hid (show tcGood n l2 k = !(hasB (nearB l2 es) (x + 1)) by unfold tcGood hasB; rw [getD_of Hes.out, getD_of hx2])
            have HP := Lib.hid (And.intro p00 (And.intro p01 p02))
            clear hW0 hl2 hl2l hx2 hsr cz fz p00 p01 p02
            refine wp_region_chain (w0 := W0) 9 [false, false, false, true, false, false, false, false, true] (by kernel_rfl) (by kernel_rfl) (hz) ?_
            simp only [selF, selT, List.take_succ_cons, List.take_zero, List.drop_succ_cons, List.drop_zero]
            refine pflow_val (v := ?_) rfl ?_ ?_; rotate_left; (intro W hW; go_simp; with_reducible rfl)
            simp only [Act.put, List.setIfInBounds_toArray, List.set_cons_succ, List.set_cons_zero]
            refine pflow_val (v := ?_) rfl ?_ ?_; rotate_left; (intro W hW; go_simp; with_reducible rfl)
            simp only [Act.put, List.setIfInBounds_toArray, List.set_cons_succ, List.set_cons_zero]
            refine pflow_val (v := ?_) rfl ?_ ?_; rotate_left; (intro W hW; go_simp; with_reducible rfl)
            simp only [Act.put, List.setIfInBounds_toArray, List.set_cons_succ, List.set_cons_zero]
            refine pflow_val (v := ?_) rfl ?_ ?_; rotate_left; (intro W hW; go_simp; with_reducible rfl)
            simp only [Act.put, List.setIfInBounds_toArray, List.set_cons_succ, List.set_cons_zero]
            refine pflow_val (v := ?_) rfl ?_ ?_; rotate_left; (intro W hW; go_simp; with_reducible rfl)
            simp only [Act.put, List.setIfInBounds_toArray, List.set_cons_succ, List.set_cons_zero]
            refine pflow_val (v := ?_) rfl ?_ ?_; rotate_left; (intro W hW; go_simp; with_reducible rfl)
            simp only [Act.put, List.setIfInBounds_toArray, List.set_cons_succ, List.set_cons_zero]
            refine pflow_val (v := ?_) rfl ?_ ?_; rotate_left; (intro W hW; go_simp; with_reducible rfl)
            simp only [Act.put, List.setIfInBounds_toArray, List.set_cons_succ, List.set_cons_zero]
            intro W hW
            refine Or.inl ⟨rfl, ?_⟩
            go_simp
            (with_reducible refine (near_any _ _ _ _ n l2 k es W (H.out.keep (HS0.out.after hW).below) (HIl.out W hW) Hes.out (by have := Hr1.out; omega) (by rw [Hl2l.out]; exact Hr2.out)).mono ?_)
            rintro e W' ⟨un, rfl, hon, hbn⟩
            refine ⟨_, rfl, hW.trans hbn, ?_⟩
            replace hW := hW.trans hbn
            have Hon := Lib.hid hon.ints; clear hon hbn
            (try simp only [Act.put, List.setIfInBounds_toArray, List.set_cons_succ, List.set_cons_zero])
            refine Or.inl ⟨rfl, ?_⟩
            go_simp
            (with_reducible refine (containsI_any _ (nearB l2 es) (x + 1) _ Hon.out).mono ?_)
            rintro e W' ⟨rfl, rfl⟩
            refine ⟨_, rfl, hW, ?_⟩
            replace hW := hW
            skip
            (try simp only [Act.put, List.setIfInBounds_toArray, List.set_cons_succ, List.set_cons_zero])
            simp only [TFlow]
            have Ho3 := Lib.hid (Own.since Ho2.out hW)
            have HS3 := Lib.hid (HS0.out.after hW)
            obtain ⟨p00, p01, p02⟩ := HP.out
            cases hb : hasB (nearB l2 es) (x + 1)
            · have hgt : tcGood n l2 k = true := by rw [Hgd.out, hb]; rfl
              rw [hgt] at Hg
              clear hW hz t0 t1 t2 c2 hb m1 m2 m3
              go_wp2
              go_roundw
              case rel => exact ⟨l2, (k : Int) + 1, s + 1, f', by go_num, by first | rfl | go_num, Ho3.out, by have := Hg.out.2; simpa using this, by have := Hg.out.1; simp at this; rw [← this]; exact Hrun.out, HS3.out⟩
              case measure => (have := Hs.out; have := Hst.out.st; simp [intOf, tcMu]; try omega)
            · have hgt : tcGood n l2 k = false := by rw [Hgd.out, hb]; rfl
              rw [hgt] at Hg
              clear hW hz t0 t1 t2 c2 hb m1 m2 m3
              go_wp2
              go_roundw
              case rel => exact ⟨l2, (k : Int), s + 1, f', by go_num, by first | rfl | go_num, Ho3.out, by have := Hg.out.2; simpa using this, by have := Hg.out.1; simp at this; rw [← this]; exact Hrun.out, HS3.out⟩
              case measure => (have := Hs.out; have := Hst.out.st; simp [intOf, tcMu]; try omega)
end Go.Proofs.Ytomnaabadohecaa
namespace Go.Proofs.Ytomnaabadohecaa
open Go.RowKit
/-! leaders and sizes of components, plain law -/
/-- is a node of the component p, with the input 1? -/
def oneIn (n : Net) (p : Nat) (w : Nat) : Bool := decide (leastB n w = p) && decide (n.inputs.getD w 0 = 1)
def onesTo (n : Net) (p k : Nat) : List Nat := (List.range k).filter (oneIn n p)
def onesOf (n : Net) (p : Nat) : List Nat := onesTo n p n.ends.length
theorem onesTo_succ (n : Net) (p k : Nat) : onesTo n p (k + 1) = onesTo n p k ++ (if oneIn n p k = true then [k] else []) := by
  unfold onesTo
  rw [List.range_succ, List.filter_append]
  congr 1
  cases h : oneIn n p k <;> simp [h]
theorem onesTo_len (n : Net) (p k : Nat) : (onesTo n p k).length ≤ k := by
  unfold onesTo
  exact Nat.le_trans (List.length_filter_le _ _) (by simp)
theorem onesTo_mono (n : Net) (p : Nat) {j k : Nat} (h : j ≤ k) : (onesTo n p j).length ≤ (onesTo n p k).length := by
  induction k with
  | zero => obtain rfl : j = 0 := by omega
            exact Nat.le_refl _
  | succ k ih =>
    rcases Nat.lt_or_ge j (k + 1) with h1 | h1
    · rw [onesTo_succ, List.length_append]
      have := ih (by omega)
      omega
    · obtain rfl : j = k + 1 := by omega
      exact Nat.le_refl _
/-- the node that is found so far -/
def ownTo (n : Net) (p k : Nat) : Int := match onesTo n p k with
  | [] => -1
  | w :: _ => (w : Int)
theorem ownTo_zero (n : Net) (p : Nat) : ownTo n p 0 = -1 := rfl
theorem ownTo_range (n : Net) (p k : Nat) : -1 ≤ ownTo n p k ∧ ownTo n p k < k := by
  unfold ownTo
  cases h : onesTo n p k with
  | nil => show -1 ≤ (-1 : Int) ∧ (-1 : Int) < k; omega
  | cons w l =>
    have : w ∈ onesTo n p k := by rw [h]; exact List.mem_cons_self
    have := List.mem_range.1 (List.mem_filter.1 this).1
    show -1 ≤ (w : Int) ∧ (w : Int) < k
    constructor <;> omega
theorem ownTo_neg (n : Net) (p k : Nat) : ownTo n p k < 0 ↔ (onesTo n p k).length = 0 := by
  unfold ownTo
  cases h : onesTo n p k with
  | nil => simp
  | cons w l => simp
theorem ownTo_skip {n : Net} {p k : Nat} (h : oneIn n p k = false) : onesTo n p (k + 1) = onesTo n p k ∧ ownTo n p (k + 1) = ownTo n p k := by
  have : onesTo n p (k + 1) = onesTo n p k := by rw [onesTo_succ, h]; simp
  exact ⟨this, by unfold ownTo; rw [this]⟩
theorem ownTo_first {n : Net} {p k : Nat} (h : oneIn n p k = true) (h0 : ownTo n p k < 0) : (onesTo n p (k + 1)).length = 1 ∧ ownTo n p (k + 1) = k := by
  have h1 : onesTo n p k = [] := List.eq_nil_of_length_eq_zero ((ownTo_neg n p k).1 h0)
  have : onesTo n p (k + 1) = [k] := by rw [onesTo_succ, h, h1]; rfl
  exact ⟨by rw [this]; rfl, by unfold ownTo; rw [this]⟩
theorem ownTo_two {n : Net} {p k : Nat} (h : oneIn n p k = true) (h0 : ¬ ownTo n p k < 0) (hk : k < n.ends.length) : (onesOf n p).length ≠ 1 := by
  have h1 : (onesTo n p k).length ≠ 0 := fun e => h0 ((ownTo_neg n p k).2 e)
  have h2 : (onesTo n p (k + 1)).length = (onesTo n p k).length + 1 := by rw [onesTo_succ, h]; simp
  have h3 := onesTo_mono n p (show k + 1 ≤ n.ends.length by omega)
  unfold onesOf
  omega
/-- the leader of a component, if there is just one -/
def leadOf (n : Net) (v : Nat) : Int := ownTo n (leastB n v) n.ends.length
def oneLead (n : Net) (v : Nat) : Bool := (onesOf n (leastB n v)).length == 1
def leadAll (n : Net) : Bool := (List.range n.ends.length).all (oneLead n)
def leadL (n : Net) (k : Nat) : List Int := (List.range k).map (leadOf n)
theorem leadL_succ (n : Net) (k : Nat) : leadL n (k + 1) = leadL n k ++ [leadOf n k] := by unfold leadL; rw [List.range_succ, List.map_append]; rfl
theorem leadL_len (n : Net) (k : Nat) : (leadL n k).length = k := by simp [leadL]
theorem leadAll_no {n : Net} {v : Nat} (hv : v < n.ends.length) (h : (onesOf n (leastB n v)).length ≠ 1) : leadAll n = false := by
  rw [Bool.eq_false_iff]
  intro hc
  have := List.all_eq_true.1 hc v (List.mem_range.2 hv)
  exact h (by simpa [oneLead] using this)
/-- how many nodes a component has -/
def sizeTo (n : Net) (p k : Nat) : Nat := ((List.range k).filter fun w => decide (leastB n w = p)).length
def sizeOf' (n : Net) (p : Nat) : Nat := sizeTo n p n.ends.length
theorem sizeTo_succ (n : Net) (p k : Nat) : sizeTo n p (k + 1) = sizeTo n p k + (if leastB n k = p then 1 else 0) := by
  unfold sizeTo
  rw [List.range_succ, List.filter_append, List.length_append]
  congr 1
  by_cases h : leastB n k = p
  · rw [if_pos h, List.filter_cons_of_pos (by simpa using h)]; rfl
  · rw [if_neg h, List.filter_cons_of_neg (by simpa using h)]; rfl
theorem sizeTo_le (n : Net) (p k : Nat) : sizeTo n p k ≤ k := by
  unfold sizeTo
  exact Nat.le_trans (List.length_filter_le _ _) (by simp)
def evenAt (n : Net) (v : Nat) : Bool := !(sizeOf' n (leastB n v) % 2 == 1)
def evenAll (n : Net) : Bool := (List.range n.ends.length).all (evenAt n)
theorem all_range_no {k v : Nat} {f : Nat → Bool} (hv : v < k) (h : f v = false) : (List.range k).all f = false := by
  rw [Bool.eq_false_iff]
  intro hc
  rw [List.all_eq_true.1 hc v (List.mem_range.2 hv)] at h
  cases h
theorem all_range_succ {k : Nat} {f : Nat → Bool} : (List.range (k + 1)).all f = ((List.range k).all f && f k) := by rw [List.range_succ, List.all_append]; simp
/-- is the network a forest? -/
def stubB (n : Net) : Bool := (edgesB n).any fun e => decide (e.1 = e.2.2.1) && decide (e.2.1 = e.2.2.2)
def forB (n : Net) : Bool := !stubB n && decide ((edgesB n).length + rootsB n n.ends.length = n.ends.length)
/-- the property of a scheme: known?, has? -/
def hasB2 (n : Net) (s : Int) : Bool :=
  if s = 1 then bipB n
  else if s = 2 then tcHas (tcAll n)
  else if s = 3 then forB n
  else if n.ids.length = 0 then false
  else if s = 4 then leadAll n
  else evenAll n
def knowB (n : Net) (s : Int) : Bool := if s = 2 then (tcAll n).isSome else true
def hpOk (n : Net) (s : Int) : Bool := netOk n && inB 1 5 s
def fnExactHasProperty_r0 (n : Net) (s : Int) : Bool := hpOk n s && hasB2 n s
def fnExactHasProperty_r1 (n : Net) (s : Int) : Bool := hpOk n s && knowB n s
end Go.Proofs.Ytomnaabadohecaa
namespace Go.Proofs.Ytomnaabadohecaa
open Go.RowKit
/-! no cycle: the reference's girth and the program's count of edges, plain law -/
def portF (n : Net) (v i : Nat) : Int × Int := (n.ends.getD v []).getD i (0, 0)
def avoidB (n : Net) (v i : Nat) : Int := (distB (cutB n (keepX v i (portF n v i))) v).getD (portF n v i).1.toNat 0
def gStep (out d : Int) : Int := if 0 ≤ d ∧ (out = 0 ∨ d + 1 < out) then d + 1 else out
def gPort (n : Net) (v : Nat) (out : Int) (i : Nat) : Int := if portF n v i = ((v : Int), (i : Int)) then out else gStep out (avoidB n v i)
def gRow (n : Net) (v k : Nat) (out : Int) : Int := (List.range k).foldl (gPort n v) out
def gTo (n : Net) (k : Nat) : Int := (List.range k).foldl (fun out v => gRow n v (n.ends.getD v []).length out) 0
def girthB (n : Net) : Int := gTo n n.ends.length
theorem gRow_succ (n : Net) (v k : Nat) (out : Int) : gRow n v (k + 1) out = gPort n v (gRow n v k out) k := by unfold gRow; rw [List.range_succ, List.foldl_append]; rfl
theorem gTo_succ (n : Net) (k : Nat) : gTo n (k + 1) = gRow n k (n.ends.getD k []).length (gTo n k) := by unfold gTo; rw [List.range_succ, List.foldl_append]; rfl
theorem gStep_pos {out d : Int} (h : 0 ≤ out) : 0 ≤ gStep out d := by unfold gStep; split <;> omega
theorem gStep_zero {out d : Int} (h : 0 ≤ out) : gStep out d = 0 ↔ out = 0 ∧ d < 0 := by
  unfold gStep
  split
  · rename_i h1; omega
  · rename_i h1; omega
theorem gPort_pos {n : Net} {v : Nat} {out : Int} {i : Nat} (h : 0 ≤ out) : 0 ≤ gPort n v out i := by
  unfold gPort
  split
  · exact h
  · exact gStep_pos h
def noWay (n : Net) (v i : Nat) : Prop := portF n v i = ((v : Int), (i : Int)) ∨ avoidB n v i < 0
theorem gPort_zero {n : Net} {v : Nat} {out : Int} {i : Nat} (h : 0 ≤ out) : gPort n v out i = 0 ↔ out = 0 ∧ noWay n v i := by
  unfold gPort noWay
  split
  · rename_i e; exact ⟨fun h => ⟨h, .inl e⟩, fun h => h.1⟩
  · rename_i e
    rw [gStep_zero h]
    exact ⟨fun h => ⟨h.1, .inr h.2⟩, fun h => ⟨h.1, h.2.resolve_left e⟩⟩
theorem gRow_pos {n : Net} {v k : Nat} {out : Int} (h : 0 ≤ out) : 0 ≤ gRow n v k out := by
  induction k with
  | zero => exact h
  | succ k ih => rw [gRow_succ]; exact gPort_pos ih
theorem gRow_zero {n : Net} {v k : Nat} {out : Int} (h : 0 ≤ out) : gRow n v k out = 0 ↔ out = 0 ∧ ∀ i, i < k → noWay n v i := by
  induction k with
  | zero => exact ⟨fun h => ⟨h, fun i hi => by omega⟩, fun h => h.1⟩
  | succ k ih =>
    rw [gRow_succ, gPort_zero (gRow_pos h), ih]
    constructor
    · rintro ⟨⟨h1, h2⟩, h3⟩
      exact ⟨h1, fun i hi => by rcases Nat.lt_or_ge i k with h4 | h4; exact h2 i h4; rw [show i = k by omega]; exact h3⟩
    · rintro ⟨h1, h2⟩
      exact ⟨⟨h1, fun i hi => h2 i (by omega)⟩, h2 k (by omega)⟩
theorem gTo_pos {n : Net} {k : Nat} : 0 ≤ gTo n k := by
  induction k with
  | zero => exact Int.le_refl _
  | succ k ih => rw [gTo_succ]; exact gRow_pos ih
theorem gTo_zero {n : Net} {k : Nat} : gTo n k = 0 ↔ ∀ v, v < k → ∀ i, i < (n.ends.getD v []).length → noWay n v i := by
  induction k with
  | zero => exact ⟨fun _ v hv => by omega, fun _ => rfl⟩
  | succ k ih =>
    rw [gTo_succ, gRow_zero gTo_pos, ih]
    constructor
    · rintro ⟨h1, h2⟩ v hv
      rcases Nat.lt_or_ge v k with h4 | h4
      · exact h1 v h4
      · rw [show v = k by omega]; exact h2
    · intro h
      exact ⟨fun v hv => h v (by omega), h k (by omega)⟩
theorem portAt_iff {n : Net} {v i : Nat} {f : Int × Int} : PortAt n v i f ↔ i < (n.ends.getD v []).length ∧ portF n v i = f := by
  unfold PortAt portF
  rw [List.getElem?_eq_some_iff]
  constructor
  · rintro ⟨h, rfl⟩
    exact ⟨h, getD_of (List.getElem?_eq_getElem h)⟩
  · rintro ⟨h, rfl⟩
    exact ⟨h, (getD_of (List.getElem?_eq_getElem h)).symm⟩
def stubP (n : Net) : Bool := (List.range n.ends.length).any fun v => (List.range (n.ends.getD v []).length).any fun i => decide (portF n v i = ((v : Int), (i : Int)))
theorem stub_eq {n : Net} (hn : netOk n = true) : stubB n = stubP n := by
  rw [Bool.eq_iff_iff]
  unfold stubB stubP
  simp only [List.any_eq_true, List.mem_range, decide_eq_true_eq, Bool.and_eq_true]
  constructor
  · rintro ⟨e, he, h1, h2⟩
    obtain ⟨v, i, f, hv, hp, hk, rfl⟩ := mem_edges_port.1 he
    obtain ⟨h3, h4⟩ := portAt_iff.1 hp
    refine ⟨v, hv, i, h3, ?_⟩
    rw [h4]
    exact Prod.ext h1.symm h2.symm
  · rintro ⟨v, hv, i, hi, h⟩
    refine ⟨_, mem_edges_port.2 ⟨v, i, _, hv, portAt_iff.2 ⟨hi, h⟩, ?_, rfl⟩, rfl, rfl⟩
    unfold keepE
    simp
theorem for_eq2 {n : Net} (hn : netOk n = true) : forB n = (!stubP n && girthB n == 0) := by
  unfold forB
  rw [stub_eq hn]
  cases hs : stubP n
  · simp only [Bool.not_false, Bool.true_and]
    rw [Bool.eq_iff_iff, decide_eq_true_eq, beq_iff_eq, forest_net hn]
    unfold girthB
    rw [gTo_zero]
    have hns : ∀ v i, v < n.ends.length → i < (n.ends.getD v []).length → portF n v i ≠ ((v : Int), (i : Int)) := by
      intro v i hv hi e
      have : stubP n = true := List.any_eq_true.2 ⟨v, List.mem_range.2 hv, List.any_eq_true.2 ⟨i, List.mem_range.2 hi, decide_eq_true e⟩⟩
      rw [hs] at this
      cases this
    have key : ∀ v i, v < n.ends.length → ∀ (hi : i < (n.ends.getD v []).length), (¬ Rch (cutB n (keepX v i (portF n v i))) v (portF n v i).1.toNat ↔ noWay n v i) := by
      intro v i hv hi
      have hp : PortAt n v i (portF n v i) := portAt_iff.2 ⟨hi, rfl⟩
      obtain ⟨p1, p2, p3, p4, p5⟩ := port_in hn hp
      have hc := cut_ok hn (keepX v i (portF n v i)) (keepX_ok hn hp)
      have hcl : (cutB n (keepX v i (portF n v i))).ends.length = n.ends.length := by simp [cutB]
      have := dist_iff hc (v := v) (w := (portF n v i).1.toNat) (by omega) (by omega)
      unfold noWay
      rw [← this]
      unfold avoidB
      constructor
      · intro h; exact .inr (by omega)
      · rintro (h | h)
        · exact absurd h (hns v i hv hi)
        · omega
    constructor
    · intro h v hv i hi
      exact (key v i hv hi).1 (h v i _ (portAt_iff.2 ⟨hi, rfl⟩))
    · intro h v i f hp
      obtain ⟨h1, h2⟩ := portAt_iff.1 hp
      have hv := (port_in hn hp).1
      subst h2
      exact (key v i hv h1).2 (h v hv i h1)
  · simp
end Go.Proofs.Ytomnaabadohecaa
namespace Go.Proofs.Ytomnaabadohecaa
open Go.RowKit
theorem compB_len (n : Net) : (compB n).length = n.ends.length := by simp [compB]
theorem compB_snoc (n : Net) (k : Nat) : (List.range (k + 1)).map (fun v => (leastB n v : Int)) = (List.range k).map (fun v => (leastB n v : Int)) ++ [(leastB n k : Int)] := by rw [List.range_succ, List.map_append]; rfl
set_option maxRecDepth 100000 in
set_option maxHeartbeats 8000000 in
theorem meParts_any (ve vi vn : Value) (n : Net) (w : World) (h : NetIn w ve vi vn n) (hn : netOk n = true) :
    Calls Try.prog 33 #[.agg #[ve, vi, vn]] w fun e w' => ∃ u, e = .returned u ∧ Own w' w.heap.size u (compB n) ∧ Below w.heap.size w w' := by
  have hnl := netOk_len hn
  have hnl1 := hnl.1
  have hnl2 := hnl.2
  have Hn := Lib.hid hn
  obtain ⟨w0, hw0⟩ : ∃ w0, w0 = (w).alloc (.cells #[ve, vi, vn] 31) := ⟨_, rfl⟩
  have hb0 : Below w.heap.size w w0 := by rw [hw0]; exact ((Below.refl _ _).alloc (by simp) _)
  have H := Lib.hid (h.keep hb0)
  obtain ⟨h1, h2, h3⟩ := h.keep hb0
  obtain ⟨A, c, rfl, hlc, hm, hA⟩ := h1
  obtain ⟨A2, c2, rfl, _, hm2, _⟩ := h2
  obtain ⟨A3, c3, rfl, _, hm3, _⟩ := h3
  unfold maxLen at hm hm2 hm3
  have p00 : ∀ W, Since w0 W → W.cell? ⟨w.heap.size, 0, none⟩ = some (.slice A n.ends.length c) := have_cell (by rw [hw0]; simp)
  have p01 : ∀ W, Since w0 W → W.cell? ⟨w.heap.size, 1, none⟩ = some (.slice A2 n.ids.length c2) := have_cell (by rw [hw0]; simp)
  have p02 : ∀ W, Since w0 W → W.cell? ⟨w.heap.size, 2, none⟩ = some (.slice A3 n.inputs.length c3) := have_cell (by rw [hw0]; simp)
  have Hb0 := Lib.hid hb0
  have Hw0 := Lib.hid hw0
  have HA := Lib.hid hA
  clear hA h
  clear hb0 hw0
  have hs0 : Since w0 w0 := since_refl _
  clear hn hnl
  unfold compB
  go_enter Try.func33, Try.ntmps33
  go_upto_region 1 with (fail)
  rw [← Hw0.out]
  go_wp2
  go_loopw [3, 8] (fun u i wr => ∃ k : Nat, k ≤ n.ends.length ∧ i = .int .i64 k ∧ Own wr w0.heap.size u ((List.range k).map fun v => (leastB n v : Int)) ∧ Since w0 wr) (fun _ i _ => n.ends.length - (intOf i).toNat)
  case atStart => exact ⟨0, Nat.zero_le _, rfl, by simpa using own_nil _ w0.heap.size, hs0⟩
  case round =>
    obtain ⟨k, hk, rfl, ho, hsr⟩ := hrel
    have Ho := Lib.hid ho
    have Hs := Lib.hid hsr
    clear ho hs0
    by_cases hlt : k < n.ends.length
    · have m3 : IntKind.i64.wrap ((k : Int) + 1) = (k : Int) + 1 := wr64 _ (by omega) (by omega)
      have Hlen : Hid (((List.range k).map fun v => (leastB n v : Int)).length + 1 ≤ 17592186044416) := by show _ ≤ _; simp; omega
      have Hn1 := Lib.hid (compB_snoc n k)
      go_wp2_with fail
      refine (meBall_any _ _ _ n k 40 wr (H.out.keep Hs.out.below) Hn.out hlt).mono ?_
      rintro e w2 ⟨u2, rfl, ho2, hb2⟩
      have hl := ball_least Hn.out hlt
      obtain ⟨gd, m, cd, rfl, hm⟩ : ∃ gd m cd, u2 = .slice (some ⟨gd, 0, none⟩) m cd ∧ 0 < m := by
        rcases ho2.cases with ⟨-, e1⟩ | ⟨gd, cd, rfl, hg1, hg2⟩
        · rw [e1] at hl; cases hl
        · refine ⟨gd, _, cd, rfl, ?_⟩
          cases hq : ballTo n k 40 n.ends.length with
          | nil => rw [hq] at hl; cases hl
          | cons a b => simp
      obtain ⟨y, hy⟩ : ∃ y, y = (leastB n k : Int) := ⟨_, rfl⟩
      rw [← hy] at hl Hn1
      have cd1 := ho2.cell hl
      have hm1 : (0 : Int) < m := by omega
      have Hs2 := Lib.hid (Hs.out.after hb2)
      have Ho2 := Lib.hid (Ho.out.since hb2)
      have Hy := Lib.hid hy
      clear ho2 hb2 hl hsr hy
      go_wp2_with (at_builtin; refine app_int_s rfl _ _ rfl rfl (Ho2.out.since (since_alloc _ (since_refl _))) w2.heap.size y rfl (by simp [go_sem]) Hlen.out (since_alloc _ Hs2.out) ?_; intro g cc w3 ho3 hs3)
      have Ho3 := Lib.hid ho3
      have Hs3 := Lib.hid hs3
      clear ho3 hs3
      go_wp2
      go_roundw
      case rel => exact ⟨k + 1, by omega, by first | rfl | go_num, by rw [Hn1.out]; have := Ho3.out; simpa using this, Hs3.out⟩
      case measure => simp [intOf]; omega
    · obtain rfl : k = n.ends.length := by omega
      clear hk hlt
      go_wp2
      go_ret
      exact ⟨_, rfl, Ho.out.mono Hb0.out.size, Since.after Hb0.out Hs.out⟩
end Go.Proofs.Ytomnaabadohecaa
namespace Go.Proofs.Ytomnaabadohecaa
open Go.RowKit
/-- the nodes that reject -/
def rejL (n : Net) (s : Int) (ls : List Int) : List Int := keptB (fun v => accAt n s ls v.toNat) (upto ls.length)
theorem rejL_le (n : Net) (s : Int) (ls : List Int) : (rejL n s ls).length ≤ ls.length := by
  have := kept_le (fun v => accAt n s ls v.toNat) (upto ls.length)
  rw [upto_len] at this
  exact this
theorem kept_snoc' (p : Int → Bool) (k : Nat) : keptB p (upto (k + 1)) = keptB p (upto k) ++ if p k then [] else [(k : Int)] := by
  rw [upto_snoc]
  unfold keptB
  rw [List.filter_append]
  congr 1
  cases h : p (k : Int) <;> simp [h]
def fnExactRejectingNodes_r1 (n : Net) (s : Int) (ls : List Int) : Bool := labOk n s ls
def fnExactRejectingNodes_d (n : Net) (s : Int) (ls : List Int) : List Int := if labOk n s ls then rejL n s ls else []
def fnExactIsAccepted_r1 (n : Net) (s : Int) (ls : List Int) : Bool := labOk n s ls
def fnExactIsAccepted_r0 (n : Net) (s : Int) (ls : List Int) : Bool := labOk n s ls && (rejL n s ls).length == 0
theorem fnExactRejectingNodes_dl (n : Net) (s : Int) (ls : List Int) (_ : szNet n ≤ 1048576) (hb : ls.length ≤ 1048576) : (fnExactRejectingNodes_d n s ls).length ≤ 4611686018427387904 := by
  unfold fnExactRejectingNodes_d
  split
  · have := rejL_le n s ls
    omega
  · simp
end Go.Proofs.Ytomnaabadohecaa
namespace Go.Proofs.Ytomnaabadohecaa
/-! all lists of labels, in order: the digits of a number, and counting up -/
/-- the digits of k, the least first -/
def digs (B : Nat) : Nat → Nat → List Nat
  | 0, _ => []
  | n + 1, k => k % B :: digs B n (k / B)
/-- counting up, the least digit first -/
def bump (B : Nat) : List Nat → List Nat
  | [] => []
  | x :: xs => if x + 1 < B then (x + 1) :: xs else 0 :: bump B xs
theorem digs_len (B n k : Nat) : (digs B n k).length = n := by
  induction n generalizing k with
  | zero => rfl
  | succ n ih => simp [digs, ih]
theorem bump_digs {B : Nat} (hB : 0 < B) (n k : Nat) : bump B (digs B n k) = digs B n (k + 1) := by
  induction n generalizing k with
  | zero => rfl
  | succ n ih =>
    have hk := Nat.div_add_mod k B
    have hl := Nat.mod_lt k hB
    simp only [digs, bump]
    split
    · rename_i h
      have e : k + 1 = (k % B + 1) + B * (k / B) := by omega
      rw [e, Nat.add_mul_mod_self_left, Nat.add_mul_div_left _ _ hB, Nat.mod_eq_of_lt h, Nat.div_eq_of_lt h, Nat.zero_add]
    · rename_i h
      have e : k + 1 = 0 + B * (k / B + 1) := by rw [Nat.mul_add]; omega
      rw [e, Nat.add_mul_mod_self_left, Nat.add_mul_div_left _ _ hB, Nat.zero_mod, Nat.zero_div, Nat.zero_add, ih]
theorem digs_zero (B n : Nat) : digs B n 0 = List.replicate n 0 := by
  induction n with
  | zero => rfl
  | succ n ih => simp [digs, ih, List.replicate_succ]
theorem digs_lt {B : Nat} (hB : 0 < B) (n k : Nat) : ∀ x ∈ digs B n k, x < B := by
  induction n generalizing k with
  | zero => simp [digs]
  | succ n ih =>
    intro x hx
    rcases List.mem_cons.1 hx with h | h
    · rw [h]; exact Nat.mod_lt _ hB
    · exact ih _ x h
/-- the list of labels with a number, the greatest digit first -/
def labs (ds : List Nat) : List Int := (ds.map fun (x : Nat) => (x : Int)).reverse
def listB (B n k : Nat) : List Int := labs (digs B n k)
theorem labs_len (ds : List Nat) : (labs ds).length = ds.length := by simp [labs]
theorem listB_len (B n k : Nat) : (listB B n k).length = n := by rw [listB, labs_len, digs_len]
theorem labs_at {ds : List Nat} {i x : Nat} (h : ds[i]? = some x) : (labs ds)[ds.length - 1 - i]? = some (x : Int) := by
  have hi : i < ds.length := (List.getElem?_eq_some_iff.1 h).1
  unfold labs
  rw [List.getElem?_reverse (by simp; omega)]
  simp only [List.length_map, List.getElem?_map]
  rw [show ds.length - 1 - (ds.length - 1 - i) = i by omega, h]
  rfl
theorem labs_set (ds : List Nat) (i x : Nat) (h : i < ds.length) : (labs ds).set (ds.length - 1 - i) (x : Int) = labs (ds.set i x) := by
  apply List.ext_getElem?
  intro j
  unfold labs
  rw [List.getElem?_set]
  by_cases hj : j < ds.length
  · rw [List.getElem?_reverse (by simp; omega), List.getElem?_reverse (by simp; omega)]
    simp only [List.length_reverse, List.length_map, List.length_set, List.getElem?_map, List.getElem?_set]
    by_cases e : ds.length - 1 - i = j
    · rw [if_pos e, if_pos (by omega), if_pos (by omega : i = ds.length - 1 - j), if_pos (by omega)]; rfl
    · rw [if_neg e, if_neg (by omega : ¬ i = ds.length - 1 - j)]
  · rw [if_neg (by omega), List.getElem?_eq_none (by simp; omega), List.getElem?_eq_none (by simp; omega)]
theorem listB_in {B : Nat} (hB : 0 < B) (n k : Nat) : ∀ x ∈ listB B n k, 0 ≤ x ∧ x < B := by
  intro x hx
  unfold listB labs at hx
  rw [List.mem_reverse, List.mem_map] at hx
  obtain ⟨y, hy, rfl⟩ := hx
  have := digs_lt hB n k y hy
  omega
/-- counting up, when the least i digits have been turned to 0 -/
def half (ds : List Nat) (i : Nat) : List Nat := List.replicate i 0 ++ ds.drop i
theorem half_zero (ds : List Nat) : half ds 0 = ds := by simp [half]
theorem half_len {ds : List Nat} {i : Nat} (h : i ≤ ds.length) : (half ds i).length = ds.length := by simp [half]; omega
theorem half_at {ds : List Nat} {i x : Nat} (h : ds[i]? = some x) : (half ds i)[i]? = some x := by simp [half, List.getElem?_append_right, h]
theorem half_set {ds : List Nat} {i x : Nat} (h : ds[i]? = some x) (y : Nat) : (half ds i).set i y = List.replicate i 0 ++ y :: ds.drop (i + 1) := by
  have hi : i < ds.length := (List.getElem?_eq_some_iff.1 h).1
  unfold half
  rw [List.set_append_right _ _ (by simp), List.drop_eq_getElem_cons hi]
  simp only [List.length_replicate, Nat.sub_self, List.set_cons_zero]
theorem half_next {ds : List Nat} {i x : Nat} (h : ds[i]? = some x) : (half ds i).set i 0 = half ds (i + 1) := by
  rw [half_set h, half, List.replicate_succ', List.append_assoc]; rfl
theorem bump_half {B : Nat} {ds : List Nat} {i : Nat} (hi : i ≤ ds.length) (h : ∀ j x, j < i → ds[j]? = some x → ¬ x + 1 < B) : bump B ds = List.replicate i 0 ++ bump B (ds.drop i) := by
  induction i with
  | zero => simp
  | succ i ih =>
    rw [ih (by omega) (fun j x hj => h j x (by omega)), List.drop_eq_getElem_cons (by omega : i < ds.length), bump, if_neg (h i _ (by omega) (List.getElem?_eq_getElem _)), List.replicate_succ', List.append_assoc]
    rfl
theorem bump_stop {B : Nat} {ds : List Nat} {i x : Nat} (h : ∀ j x, j < i → ds[j]? = some x → ¬ x + 1 < B) (hx : ds[i]? = some x) (hlt : x + 1 < B) : (half ds i).set i (x + 1) = bump B ds := by
  have hi : i < ds.length := (List.getElem?_eq_some_iff.1 hx).1
  rw [half_set hx, bump_half (by omega) h, List.drop_eq_getElem_cons hi, bump]
  have : ds[i] = x := (List.getElem?_eq_some_iff.1 hx).2
  rw [this, if_pos hlt]
theorem bump_end {B : Nat} {ds : List Nat} (h : ∀ j x, j < ds.length → ds[j]? = some x → ¬ x + 1 < B) : half ds ds.length = bump B ds := by
  rw [bump_half (Nat.le_refl _) h]
  simp [half, bump]
theorem half_made (B n k i : Nat) (h : i ≤ n) : (digs B n k).take i = digs B i k := by
  induction i generalizing n k with
  | zero => simp [digs]
  | succ i ih =>
    obtain ⟨n, rfl⟩ : ∃ m, n = m + 1 := ⟨n - 1, by omega⟩
    simp only [digs, List.take_succ_cons]
    rw [ih _ _ (by omega)]
/-- how many lists there are, none if there are too many -/
def listsB (most : Int) : Nat → Option Int
  | 0 => some 1
  | n + 1 => match listsB most n with
    | none => none
    | some c => if 20000 ≤ most ∨ 20000 < c * (most + 1) then none else some (c * (most + 1))
theorem lists_more {most : Int} {i n : Nat} (h : listsB most i = none) (hn : i ≤ n) : listsB most n = none := by
  induction n with
  | zero => obtain rfl : i = 0 := by omega
            exact h
  | succ n ih =>
    by_cases e : i = n + 1
    · rw [← e]; exact h
    · rw [listsB, ih (by omega)]
theorem lists_bd {most : Int} (h0 : 0 ≤ most) (n : Nat) {c : Int} (h : listsB most n = some c) : 1 ≤ c ∧ c ≤ 20000 ∧ (n ≠ 0 → most < 20000) := by
  induction n generalizing c with
  | zero => simp [listsB] at h; subst h; simp
  | succ n ih =>
    rw [listsB] at h
    split at h
    · cases h
    · rename_i c' hc'
      obtain ⟨a1, -, -⟩ := ih hc'
      split at h
      · cases h
      · rename_i hn
        injection h with h
        subst h
        refine ⟨?_, by omega, fun _ => by omega⟩
        have : 1 * 1 ≤ c' * (most + 1) := Int.mul_le_mul a1 (by omega) (by omega) (by omega)
        omega
end Go.Proofs.Ytomnaabadohecaa
namespace Go.Proofs.Ytomnaabadohecaa
open Go.RowKit
theorem Only.since {S : List Nat} {w0 W W' : World} (h : Since w0 W) (ho : Only S W W') (hs : ∀ k ∈ S, w0.heap.size ≤ k) : Since w0 W' := Below.trans h (ho.below _ h.below.size hs)
theorem own_only {base : Nat} {u : Value} {xs : List Int} {W W' : World} {S : List Nat} (h : Own W base u xs) (ho : Only S W W') (hd : ∀ k ∈ S, u.ownBlock ≠ some k) : Own W' base u xs :=
  ownsRow_stable h fun j hj => ho.block j (World.ownsRow.lt h j (by simpa using hj)).2 fun hs => hd j hs (by simpa using hj)
theorem mul_bd {c m : Int} (hc : 1 ≤ c ∧ c ≤ 20000) (h0 : 0 ≤ m) (h1 : m < 20000) : 0 ≤ c * (m + 1) ∧ c * (m + 1) ≤ 400000000 := by
  have h2 : c * (m + 1) ≤ 20000 * 20000 := Int.mul_le_mul (by omega) (by omega) (by omega) (by omega)
  have h3 : 0 ≤ c * (m + 1) := Int.mul_nonneg (by omega) (by omega)
  omega
/-- f called with the list of number k, in a world of J: one number further -/
def Counts (w0 : World) (fid : FuncId) (caps : Array Value) (B n : Nat) (c : Nat) (J : Nat → Nat → World → Prop) : Prop :=
  ∀ g k W vl, k < c → w0.heap.size ≤ g → J g k W → Own W w0.heap.size vl (listB B n k) → vl.ownBlock = some g → Calls Try.prog fid (#[vl] ++ caps) W fun e W' => ∃ u, e = .returned u ∧ J g (k + 1) W' ∧ (∃ S, Only S W W' ∧ ∀ j ∈ S, j < w0.heap.size)
end Go.Proofs.Ytomnaabadohecaa
namespace Go.Proofs.Ytomnaabadohecaa
open Go.RowKit
def askB (n : Net) (s most : Int) : Bool := netOk n && inB 1 5 s && inB 0 999999999999 most
def listsI (most : Int) (n : Nat) : Int := (listsB most n).getD (-1)
theorem listsI_neg {most : Int} (h0 : 0 ≤ most) (n : Nat) : decide (listsI most n < 0) = !(listsB most n).isSome := by
  unfold listsI
  cases h : listsB most n with
  | none => rfl
  | some c => have := lists_bd h0 n h; simp; omega
end Go.Proofs.Ytomnaabadohecaa
namespace Go.Proofs.Ytomnaabadohecaa
open Go.RowKit
theorem labOk_listB {n : Net} {s : Int} {mo : Nat} (hn : netOk n = true) (hs : inB 1 5 s = true) (hm : mo < 20000) (k : Nat) : labOk n s (listB (mo + 1) n.ends.length k) = true := by
  unfold labOk allB'
  rw [hn, hs, listB_len]
  simp only [Bool.true_and, beq_self_eq_true]
  rw [List.all_eq_true]
  intro x hx
  have := listB_in (B := mo + 1) (by omega) n.ends.length k x hx
  exact inB_iff.2 (by omega)
def cntAcc (n : Net) (s : Int) (B : Nat) : Nat → Nat
  | 0 => 0
  | k + 1 => cntAcc n s B k + if (rejL n s (listB B n.ends.length k)).length = 0 then 1 else 0
theorem cntAcc_le (n : Net) (s : Int) (B k : Nat) : cntAcc n s B k ≤ k := by
  induction k with
  | zero => exact Nat.le_refl _
  | succ k ih => unfold cntAcc; split <;> omega
def fnExactCountAccepted_r1 (n : Net) (s most : Int) : Bool := askB n s most && (listsB most n.ends.length).isSome
def fnExactCountAccepted_r0 (n : Net) (s most : Int) : Int := if fnExactCountAccepted_r1 n s most then (cntAcc n s (most.toNat + 1) (listsI most n.ends.length).toNat : Int) else 0
/-- what is so when the question is good -/
theorem ask_at {n : Net} {s most : Int} (h : fnExactCountAccepted_r1 n s most = true) : netOk n = true ∧ inB 1 5 s = true ∧ ∃ mo c : Nat, most = mo ∧ mo < 20000 ∧ listsB most n.ends.length = some (c : Int) ∧ 1 ≤ c ∧ c ≤ 20000 ∧ listsI most n.ends.length = c := by
  unfold fnExactCountAccepted_r1 askB at h
  simp only [Bool.and_eq_true] at h
  obtain ⟨⟨⟨h1, h2⟩, h3⟩, h4⟩ := h
  have hm := inB_iff.1 h3
  obtain ⟨mo, rfl⟩ := Int.eq_ofNat_of_zero_le hm.1
  obtain ⟨c, hc⟩ := Option.isSome_iff_exists.1 h4
  have hb := lists_bd (by omega) _ hc
  obtain ⟨cn, rfl⟩ := Int.eq_ofNat_of_zero_le (show 0 ≤ c by omega)
  have := (netOk_len h1).1
  exact ⟨h1, h2, mo, cn, rfl, by have := hb.2.2 (by omega); omega, hc, by omega, by omega, by simp [listsI, hc]⟩
theorem tupib {a b : Int} {c d : Bool} (h1 : a = b) (h2 : c = d) : Ending.returned (.tuple #[.int .i64 a, .bool c]) = .returned (.tuple #[.int .i64 b, .bool d]) := by rw [h1, h2]
theorem cond1_any {n : Net} {s most : Int} (h : (!askB n s most || decide (listsI most n.ends.length < 0)) = false) : fnExactCountAccepted_r1 n s most = true := by
  simp only [Bool.or_eq_false_iff, Bool.not_eq_false'] at h
  have h0 : 0 ≤ most := by have := h.1; unfold askB at this; simp only [Bool.and_eq_true] at this; exact (inB_iff.1 this.2).1
  rw [listsI_neg h0] at h
  simp only [Bool.not_eq_false'] at h
  simp [fnExactCountAccepted_r1, h.1, h.2]
theorem cond1_not {n : Net} {s most : Int} (h : (!askB n s most || decide (listsI most n.ends.length < 0)) = true) : fnExactCountAccepted_r1 n s most = false := by
  unfold fnExactCountAccepted_r1
  cases ha : askB n s most
  · rfl
  · have h0 : 0 ≤ most := by have := ha; unfold askB at this; simp only [Bool.and_eq_true] at this; exact (inB_iff.1 this.2).1
    rw [ha, listsI_neg h0] at h
    simpa using h
theorem ask_most {n : Net} {s most : Int} (h : askB n s most = true) : netOk n = true ∧ 0 ≤ most ∧ most ≤ 999999999999 ∧ n.ends.length ≤ 40 := by
  unfold askB at h
  simp only [Bool.and_eq_true] at h
  exact ⟨h.1.1, (inB_iff.1 h.2).1, (inB_iff.1 h.2).2, (netOk_len h.1.1).2⟩
end Go.Proofs.Ytomnaabadohecaa
namespace Go.Proofs.Ytomnaabadohecaa
open Go.RowKit
theorem I1.only {W W' : World} {b : Nat} {x : Int} {S : List Nat} (h : I1 W b x) (ho : Only S W W') (hb : b ∉ S) : I1 W' b x := (ho.block b h.lt hb).trans h
theorem ask_bool (n : Net) (s most : Int) : fnExactCountAccepted_r1 n s most = (netOk n && inB 1 5 s && !decide (most < 0) && (listsB most n.ends.length).isSome) := by
  unfold fnExactCountAccepted_r1 askB
  cases h1 : netOk n
  · simp
  · by_cases h0 : most < 0
    · have e1 : inB 0 999999999999 most = false := inB_neg.2 (by omega)
      have e2 : decide (most < 0) = true := by simpa using h0
      rw [e1, e2]
      simp
    · have e2 : decide (most < 0) = false := by simpa using h0
      rw [e2]
      cases h2 : listsB most n.ends.length with
      | none => simp
      | some c =>
        have := (lists_bd (by omega) _ h2).2.2 (by have := (netOk_len h1).1; omega)
        have e1 : inB 0 999999999999 most = true := inB_iff.2 (by omega)
        rw [e1]
        simp
end Go.Proofs.Ytomnaabadohecaa
